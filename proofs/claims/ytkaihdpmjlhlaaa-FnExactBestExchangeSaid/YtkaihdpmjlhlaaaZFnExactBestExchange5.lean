/-
  PROVED: for all arguments, the program's BestExchange returns what the reference's returns; the arguments read behind the call as before.
  CONDITIONS: none beyond the statement's own.
-/
import Derived.Test.YtkaihdpmjlhlaaaZFnExactBestExchange3
import Derived.Test.YtkaihdpmjlhlaaaZFnExactBestExchange4
import Derived.Deep.RegionHeld3
import Derived.IntWalk
import Derived.Deep.Cut
import Derived.Test.YtkaihdpmjlhlaaaZFnExactBestExchange1
import Derived.Test.YtkaihdpmjlhlaaaZFnExactBestExchange2
import Derived.Deep.Slices
import Derived.Deep.Fields
import Derived.ChangeSame
import Derived.SizedLaws
import Derived.ChangeSlices
import Derived.Lib.SmallJoins
import Derived.Test.YtkaihdpmjlhlaaaWWords
namespace Go.Proofs.Ytkaihdpmjlhlaaa.Q
open Go.RowKit Go.Shelf Go.Sort Go.Proofs.YtkaihdpmjlhlaaaW.PrintWords Go.Proofs.YtkaihdpmjlhlaaaW.PrintLast Go.Proofs.YtkaihdpmjlhlaaaW.PrintMore
set_option linter.unusedVariables false
set_option linter.unusedSimpArgs false

/-- slices.Delete(s, i, i+1) of a row of one's own. -/
theorem delete_calls (e base : Nat) (ok : Nat → Prop) (v : Value) (l : List Int) (i : Nat) (hi : i < l.length) (W : World) (hR : Kd.R (Kd.int .i64) e W base ok v l) :
    Calls Try.prog 58 #[v, .int .i64 (i : Int), .int .i64 ((i : Int) + 1)] W fun e' w' => ∃ v' : Value, e' = .returned v' ∧ Kd.R (Kd.int .i64) e w' base ok v' (l.take i ++ l.drop (i + 1)) ∧ Fr (fun k => v.ownBlock = some k) W w' := by
  rcases R_block hR with ⟨hv, hz⟩ | ⟨g, c, cur, hv, hbg, hok, hg, hnc, hcm, hs, ht⟩
  · subst hz; simp at hi
  · subst hv
    have h := Try.slices_Delete_int g 0 c i (i + 1) l W (block_holds hg ht) hnc hcm (by omega) (by omega)
    rw [show ((i + 1 : Nat) : Int) = (i : Int) + 1 by omega] at h
    refine h.mono ?_
    rintro e' w' ⟨rfl, q, rfl⟩
    have hp := put_R (base := base) (ok := ok) hbg hok hg hcm hs q (l.length - (i + 1 - i)) (l.take i ++ l.drop (i + 1) ++ List.replicate (i + 1 - i) 0).toArray (by simp; omega) (by simp; omega)
    have hd : ((l.take i ++ l.drop (i + 1) ++ List.replicate (i + 1 - i) 0).toArray.toList.take (l.length - (i + 1 - i))) = l.take i ++ l.drop (i + 1) := by
      show (l.take i ++ l.drop (i + 1) ++ List.replicate (i + 1 - i) 0).take (l.length - (i + 1 - i)) = _
      rw [List.take_append_of_le_length (by simp; omega), List.take_of_length_le (by simp; omega)]
    rw [hd] at hp
    refine ⟨_, rfl, hp, ?_⟩
    have hf := put_fr W g q (l.take i ++ l.drop (i + 1) ++ List.replicate (i + 1 - i) 0).toArray
    exact hf.weaken (fun k _ hk => by subst hk; rfl)

abbrev Ex3 := Int × Int × Int
def exNext (ch : List Int) (k : Nat) (o : Nat) : List Int := ch.take k ++ ch.drop (k + 1) ++ [(o : Int)]
def exStep (items : List Item) (a b : Int) (ch : List Int) (k : Nat) (s : Ex3) (o : Nat) : Ex3 :=
  if ch.contains (o : Int) = true then s else if holdsC a b (tot items (exNext ch k o)) = true ∧ s.1 < (tot items (exNext ch k o)).2.2 then ((tot items (exNext ch k o)).2.2, ch.getD k 0, (o : Int)) else s
/-- From item o on, d more. -/
def exIn (items : List Item) (a b : Int) (ch : List Int) (k : Nat) (d o : Nat) (s : Ex3) : Ex3 := (List.range' o d).foldl (exStep items a b ch k) s
/-- From place k on, d more. -/
def exOut (items : List Item) (a b : Int) (ch : List Int) (d k : Nat) (s : Ex3) : Ex3 := (List.range' k d).foldl (fun s k => exIn items a b ch k items.length 0 s) s
theorem exIn_step (items : List Item) (a b : Int) (ch : List Int) (k d o : Nat) (s : Ex3) : exIn items a b ch k (d + 1) o s = exIn items a b ch k d (o + 1) (exStep items a b ch k s o) := by unfold exIn; rw [List.range'_succ, List.foldl_cons]
theorem exOut_step (items : List Item) (a b : Int) (ch : List Int) (d k : Nat) (s : Ex3) : exOut items a b ch (d + 1) k s = exOut items a b ch d (k + 1) (exIn items a b ch k items.length 0 s) := by unfold exOut; rw [List.range'_succ, List.foldl_cons]
theorem exNext_inside {items : List Item} {ch : List Int} (h : Inside items ch) (k o : Nat) (ho : o < items.length) : Inside items (exNext ch k o) := fun x hx => by
  unfold exNext at hx
  rcases List.mem_append.1 hx with hx | hx
  · rcases List.mem_append.1 hx with hx | hx
    · exact h x (List.mem_of_mem_take hx)
    · exact h x (List.mem_of_mem_drop hx)
  · have := List.mem_singleton.1 hx; omega
theorem exNext_length (ch : List Int) (k o : Nat) (hk : k < ch.length) : (exNext ch k o).length = ch.length := by unfold exNext; simp; omega

def impl_BestExchange.f (l0 : List Item) (a1_0 a1_1 : Int) (l2 : List Int) : Option (Int × Int × Bool) :=
  (impl_arePacked.f l0 [⟨a1_0, a1_1⟩]).bind fun t => if t = true then (if l0.length ≤ 1000 ∧ l2.length ≤ 100000000 then (impl_isChoice.f (l2.length + 1) l0 a1_0 a1_1 l2).bind fun u => if u = true then
    (if (exOut l0 a1_0 a1_1 l2 l2.length 0 ((tot l0 l2).2.2, -1, 0)).2.1 < 0 then some (0, 0, false) else some ((exOut l0 a1_0 a1_1 l2 l2.length 0 ((tot l0 l2).2.2, -1, 0)).2.1, (exOut l0 a1_0 a1_1 l2 l2.length 0 ((tot l0 l2).2.2, -1, 0)).2.2, true)) else some (0, 0, false) else none) else some (0, 0, false)

theorem field_item (a b c : Int) (w : World) : (Instr.field 49 (.agg #[.int .i64 a, .int .i64 b, .int .i64 c]) 2).run Try.prog w = .ok (.int .i64 c) w := by kernel_rfl
set_option maxRecDepth 100000 in
set_option maxHeartbeats 4000000 in
theorem impl_BestExchange.calls (A0 : Option Addr) (c0 : Nat) (l0 : List Item) (a1_0 a1_1 : Int) (A2 : Option Addr) (c2 : Nat) (l2 : List Int) (r1 r2 : Int) (r3 : Bool) (w : World) (hr0 : Kd.C k49 w A0 l0.length l0) (hc0 : l0.length ≤ c0) (hr2 : Kd.C (Kd.int .i64) w A2 l2.length l2) (hc2 : l2.length ≤ c2) (h : impl_BestExchange.f l0 a1_0 a1_1 l2 = some (r1, r2, r3)) :
    Calls Try.prog 29 #[.slice A0 l0.length c0, .agg #[.int .i64 a1_0, .int .i64 a1_1], .slice A2 l2.length c2] w fun e w' => e = .returned (.tuple #[.int .i64 r1, .int .i64 r2, .bool r3]) ∧ Below w.heap.size w w' := by
  unfold impl_BestExchange.f at h
  obtain ⟨t, ht, h⟩ := Option.bind_eq_some_iff.mp h
  have HR0 := Aside0.mk hr0
  have HR2 := Aside0.mk hr2
  have B2 := Aside0.mk ((((Below.refl w.heap.size w).alloc (Nat.le_refl _) (.cells #[.int .i64 a1_0, .int .i64 a1_1] 30))).alloc (by simp) (.cells #[.int .i64 a1_0, .int .i64 a1_1] 30))
  have BK : Aside0 (((w.alloc (.cells #[.int .i64 a1_0, .int .i64 a1_1] 30)).alloc (.cells #[.int .i64 a1_0, .int .i64 a1_1] 30)).heap[w.heap.size]? = some (.cells #[.int .i64 a1_0, .int .i64 a1_1] 30 (0, 0))) :=
    ⟨(Below.heap_alloc _ _ _ (by simp)).trans (heap_alloc_new w _)⟩
  have hpk := (impl_arePacked.calls A0 c0 l0 (some ⟨w.heap.size + 1, 0, none⟩) 1 [⟨a1_0, a1_1⟩] t ((w.alloc (.cells #[.int .i64 a1_0, .int .i64 a1_1] 30)).alloc (.cells #[.int .i64 a1_0, .int .i64 a1_1] 30)) (Kd.C_below hr0 B2.out) hc0 (by simpa using caseRow (w.alloc (.cells #[.int .i64 a1_0, .int .i64 a1_1] 30)) a1_0 a1_1 30) (Nat.le_refl _) ht)
  clear ht hr0 hr2
  cases t with
  | false =>
    have hr : 0 = r1 ∧ 0 = r2 ∧ false = r3 := by simpa using h
    obtain ⟨rfl, rfl, rfl⟩ := hr
    clear h
    go_enter Try.func29, Try.ntmps29
    go_wp2_with (go_at_call 40; refine hpk.mono ?_; rintro e w' ⟨rfl, hb⟩)
    go_ret3
    exact ⟨rfl, B2.out.trans (hb.mono B2.out.size)⟩
  | true =>
    rw [if_pos rfl] at h
    split at h
    case isFalse => cases h
    case isTrue hn =>
    obtain ⟨hn0, hn2⟩ := hn
    obtain ⟨u, hu, h⟩ := Option.bind_eq_some_iff.mp h
    obtain ⟨q, hq1, _, hq2⟩ := chosen_both l0 l2 (by omega) (by omega)
    have hch := fun W (hb : Below w.heap.size w W) => impl_isChoice.calls (l2.length + 1) A0 c0 l0 a1_0 a1_1 A2 c2 l2 u W (Kd.C_below HR0.out hb) hc0 (Kd.C_below HR2.out hb) hc2 hu
    have HCH := Aside0.mk hch
    clear hch
    cases u with
    | false =>
      have hr : 0 = r1 ∧ 0 = r2 ∧ false = r3 := by simpa using h
      obtain ⟨rfl, rfl, rfl⟩ := hr
      clear h hq1 hq2 hu
      go_enter Try.func29, Try.ntmps29
      go_wp2_with (first
        | (go_at_call 40; refine hpk.mono ?_; rintro e w1 ⟨rfl, hb⟩; have B3 := Aside0.mk (B2.out.trans (hb.mono B2.out.size)); have bk := blk_cell (blk_below BK.out hb); have bk0 := (bk 0).trans rfl; have bk1 := (bk 1).trans rfl; clear bk)
        | (go_at_call 55; refine (HCH.out _ B3.out).mono ?_; rintro e w2 ⟨rfl, hb2⟩))
      go_ret3
      exact ⟨rfl, B3.out.trans (hb2.mono B3.out.size)⟩
    | true =>
      rw [if_pos rfl] at h
      have hins : Inside l0 l2 := by
        have hq : q = true := by
          unfold impl_isChoice.f at hu
          rw [hq1 (l2.length + 1) (by omega)] at hu
          cases q with
          | true => rfl
          | false => simp at hu
        exact (hq2.1 hq).2
      have htot := fun W (hb : Below w.heap.size w W) => impl_totals.calls (l2.length + 1) A0 c0 l0 A2 c2 l2 (tot l0 l2).1 (tot l0 l2).2.1 (tot l0 l2).2.2 W (Kd.C_below HR0.out hb) hc0 (Kd.C_below HR2.out hb) hc2 (totals_eq l0 l2 hins (by omega) _ (by omega))
      have HTOT := Aside0.mk htot
      have HINS := Aside0.mk hins
      have H := Aside0.mk h
      clear htot hins h hq1 hq2 hu
      have hfd := field_item (tot l0 l2).1 (tot l0 l2).2.1 (tot l0 l2).2.2
      go_enter Try.func29, Try.ntmps29
      go_wp2_with (first
        | (go_at_call 40; refine hpk.mono ?_; rintro e w1 ⟨rfl, hb⟩; have B3 := Aside0.mk (B2.out.trans (hb.mono B2.out.size)); have K3 := Aside0.mk (blk_below BK.out hb); have bk := blk_cell K3.out; have bk0 := (bk 0).trans rfl; have bk1 := (bk 1).trans rfl; clear bk)
        | (go_at_call 55; refine (HCH.out _ B3.out).mono ?_; rintro e w2 ⟨rfl, hb2⟩; have B4 := Aside0.mk (B3.out.trans (hb2.mono B3.out.size)); have K4 := Aside0.mk (blk_below K3.out hb2))
        | (go_at_call 56; refine (HTOT.out _ B4.out).mono ?_; rintro e w3 ⟨rfl, hb3⟩; have B5 := Aside0.mk (B4.out.trans (hb3.mono B4.out.size)); have K5 := Aside0.mk (blk_below K4.out hb3)))
      clear hpk HCH B2 BK B3 B4 K3 K4
      go_loopg [9, 10, 11, 34] l2.length (fun gg s9 s10 s11 s34 wr => ∃ (k : Nat) (s : Ex3), s9 = .int .i64 s.1 ∧ s10 = .int .i64 s.2.1 ∧ s11 = .int .i64 s.2.2 ∧ s34 = .int .i64 (k : Int) ∧ k ≤ l2.length ∧ l2.length - k ≤ gg ∧ Aside0 (exOut l0 a1_0 a1_1 l2 (l2.length - k) k s = exOut l0 a1_0 a1_1 l2 l2.length 0 ((tot l0 l2).2.2, -1, 0)) ∧ Aside0 (Below w3.heap.size w3 wr))
      case atStart => exact ⟨0, ((tot l0 l2).2.2, -1, 0), rfl, rfl, rfl, rfl, by omega, by omega, ⟨rfl⟩, ⟨Below.refl _ _⟩⟩
      case round =>
        obtain ⟨k, ⟨s1, s2, s3⟩, rfl, rfl, rfl, rfl, hkn, hgg, HF, BR⟩ := hrel
        by_cases hlt : k < l2.length
        · have hltz : (k : Int) < (l2.length : Int) := by omega
          have hk0 : (0 : Int) ≤ (k : Int) := by omega
          obtain ⟨ad, cs, e, _, hK, hcell⟩ := Kd.C_get (Kd.C_below HR2.out (B5.out.trans (BR.out.mono B5.out.size))) 0 (k : Int) (by omega) (by omega)
          have l1 : wr.cell? (ad.add k) = some (.int .i64 (l2.getD k 0)) := by
            rw [Int.toNat_natCast] at hK hcell
            have h0 := hcell 0 (.int .i64 (l2.getD k 0)) (by rw [show cs = [Value.int .i64 (l2.getD k 0)] from hK]; rfl)
            rw [show k * (Kd.int IntKind.i64).sz + 0 = k by simp [Kd.int, Kd.scalar]] at h0
            exact h0
          clear hK hcell
          subst e
          generalize hx : l2.getD k 0 = lx at l1
          have HX := Aside0.mk hx
          clear hx
          go_wp2
          go_loopg [9, 10, 11, 41] l0.length (fun gg2 s9 s10 s11 s41 wr2 => ∃ (o : Nat) (s : Ex3), s9 = .int .i64 s.1 ∧ s10 = .int .i64 s.2.1 ∧ s11 = .int .i64 s.2.2 ∧ s41 = .int .i64 (o : Int) ∧ o ≤ l0.length ∧ l0.length - o ≤ gg2 ∧ Aside0 (exIn l0 a1_0 a1_1 l2 k (l0.length - o) o s = exIn l0 a1_0 a1_1 l2 k l0.length 0 (s1, s2, s3)) ∧ Aside0 (Below w3.heap.size w3 wr2))
          case atStart => exact ⟨0, (s1, s2, s3), rfl, rfl, rfl, rfl, by omega, by omega, ⟨rfl⟩, BR⟩
          case round =>
            obtain ⟨o, ⟨t1, t2, t3⟩, rfl, rfl, rfl, rfl, hon, hgg2, HI, BI⟩ := hrel
            clear l1
            by_cases hlo : o < l0.length
            · have hltz2 : (o : Int) < (l0.length : Int) := by omega
              have hstep := exIn_step l0 a1_0 a1_1 l2 k (l0.length - (o + 1)) o (t1, t2, t3)
              rw [show l0.length - (o + 1) + 1 = l0.length - o by omega, HI.out] at hstep
              have HST := Aside0.mk hstep.symm
              have hct := slices_Contains_int_int.calls (l2.length + 1) (some ad) c2 l2 (o : Int) (l2.contains (o : Int)) wr (Kd.C_below HR2.out (B5.out.trans (BI.out.mono B5.out.size))) hc2 (contains_eq l2 _ (by omega) _ (by omega))
              unfold exStep at HST
              generalize hcv : l2.contains (o : Int) = cv at hct HST
              have HCT := Aside0.mk hct
              clear hstep hct hcv
              cases cv with
              | true =>
                go_wp2_with (go_at_call 57; refine (HCT.out.mono ?_); rintro e w6 ⟨rfl, nd, hnd⟩; have B6 := Aside0.mk (show Below wr.heap.size wr w6 by rw [hnd]; exact pw_below_drewN (Below.refl _ _) nd); clear hnd)
                go_roundg (l0.length - (o + 1))
                case measure => omega
                case rel => exact ⟨o + 1, (t1, t2, t3), rfl, rfl, rfl, by go_num, by omega, by omega, ⟨by have := HST.out; simpa using this⟩, ⟨BI.out.trans (B6.out.mono BI.out.size)⟩⟩
              | false =>
                have hwk : IntKind.i64.wrap ((k : Int) + 1) = (k : Int) + 1 := IntWalk.i64_in _ (by omega)
                have hnl := exNext_length l2 k o hlt
                have hni := exNext_inside HINS.out k o hlo
                obtain ⟨ys, hys⟩ : ∃ ys, exNext l2 k o = ys := ⟨_, rfl⟩
                rw [hys] at hnl hni HST
                have hyl : ys.length ≤ 100000000 := by omega
                have hnx := fun (A : Option Addr) (c : Nat) (W : World) (hb : Below w3.heap.size w3 W) (hC : Kd.C (Kd.int .i64) W A ys.length ys) (hc : ys.length ≤ c) => impl_totals.calls (ys.length + 1) A0 c0 l0 A c ys (tot l0 ys).1 (tot l0 ys).2.1 (tot l0 ys).2.2 W (Kd.C_below HR0.out (B5.out.trans (hb.mono B5.out.size))) hc0 hC hc (totals_eq l0 ys hni (by omega) _ (by omega))
                have hho := holds_f a1_0 a1_1 (tot l0 ys)
                have HYS : Aside0 (l2.take k ++ l2.drop (k + 1) ++ [(o : Int)] = ys) := ⟨hys⟩
                clear hys hyl
                generalize hnt : tot l0 ys = nt at hnx hho HST
                obtain ⟨n1, n2, n3⟩ := nt
                simp only at hnx hho HST
                generalize hhv : holdsC a1_0 a1_1 (n1, n2, n3) = hv at hho HST
                have HHO := Aside0.mk hho
                have HNX := Aside0.mk hnx
                clear hnx hho hnt hhv hnl hni
                cases hv with
                | false =>
                  go_wp2_with (first
                    | (go_at_call 57; refine (HCT.out.mono ?_); rintro e w6 ⟨rfl, nd, hnd⟩; have B6 := Aside0.mk (show Below wr.heap.size wr w6 by rw [hnd]; exact pw_below_drewN (Below.refl _ _) nd); clear hnd)
                    | (go_at_call 59; refine (clone_int (some ad) c2 l2 _ (Kd.C_below HR2.out (B5.out.trans ((BI.out.trans (B6.out.mono BI.out.size)).mono B5.out.size))) hc2 (by omega)).mono ?_; rintro e w7 ⟨v7, rfl, hR7, hb7⟩; have B7 := Aside0.mk (B6.out.trans (hb7.mono B6.out.size)))
                    | (go_at_call 58; refine (delete_calls 3 w6.heap.size (fun _ => True) v7 l2 k hlt w7 hR7).mono ?_; rintro e w8 ⟨v8, rfl, hR8, hF8⟩; have B8 := Aside0.mk (B7.out.trans (hF8.below (B := wr.heap.size) (fun q hq => by have := Kd.R_base hR7 q hq; have := B6.out.size; omega) B7.out.size)))
                    | (at_builtin; refine Kd.R_append (Kd.int .i64) (w0 := w8) wr.heap.size rfl (.tmp 53) (.tmp 55) 34 3 (.int .i64 0) 8 rfl Try.underlying34 info3 rfl (by decide) (by omega) v8 (l2.take k ++ l2.drop (k + 1)) (o : Int) [.int .i64 (o : Int)] (fun q => wr.heap.size ≤ q) (fun _ => False) rfl rfl ?aP (fun _ hq => hq.elim) ?aF ?aO (Below.refl _ _) ?aS ?aL ?_;
                        (case aP => exact rfl);
                        (case aF => exact fun q hq => Nat.le_trans B8.out.size hq);
                        (case aO => exact Kd.R_mono (Kd.R_bound (Kd.R_lower hR8 B6.out.size)) (fun q hq => hq.2.1));
                        (case aS => exact B8.out.size);
                        (case aL => simp; omega);
                        rw [HYS.out]; intro v9 w9 hR9 hb9 hg9 hat9; obtain ⟨A9, c9, hv9, hc9, hC9⟩ := Kd.R_reads hR9; subst hv9; have B9 := Aside0.mk (B8.out.trans hb9))
                    | (go_at_call 56; refine (HNX.out A9 c9 _ (BI.out.trans (B9.out.mono BI.out.size)) hC9 hc9).mono ?_; rintro e w10 ⟨rfl, hb10⟩; have B10 := Aside0.mk (B9.out.trans (hb10.mono B9.out.size)); have K10 := Aside0.mk (blk_below K5.out (BI.out.trans (B10.out.mono BI.out.size))); have hnw := heap_alloc_new w10 (.cells #[.int .i64 n1, .int .i64 n2, .int .i64 n3] 49); have bkA := Aside0.mk (blk_cell (blk_below K10.out ((Below.refl _ w10).alloc (Nat.le_refl _) (.cells #[.int .i64 n1, .int .i64 n2, .int .i64 n3] 49)))); have bk0 := (bkA.out 0).trans rfl; have bk1 := (bkA.out 1).trans rfl; have HNW := Aside0.mk hnw; clear hnw)
                    | (go_at_call 60; refine (impl_Case_holds.calls a1_0 a1_1 n1 n2 n3 _ _ HHO.out).mono ?_; rintro e w11 ⟨rfl, hb11⟩; have B11 := Aside0.mk ((B10.out.alloc B10.out.size (.cells #[.int .i64 n1, .int .i64 n2, .int .i64 n3] 49)).trans (hb11.mono (by have := B10.out.size; simp; omega))); have bkI := blk_cell (blk_below HNW.out hb11); have bi2 := (bkI 2).trans rfl; clear bkI))
                  go_roundg (l0.length - (o + 1))
                  case measure => omega
                  case rel => exact ⟨o + 1, (t1, t2, t3), rfl, rfl, rfl, by go_num, by omega, by omega, ⟨by have := HST.out; simpa using this⟩, ⟨BI.out.trans (B11.out.mono BI.out.size)⟩⟩
                | true =>
                  by_cases hgt : t1 < n3
                  · go_wp2_with (first
                    | (go_at_call 57; refine (HCT.out.mono ?_); rintro e w6 ⟨rfl, nd, hnd⟩; have B6 := Aside0.mk (show Below wr.heap.size wr w6 by rw [hnd]; exact pw_below_drewN (Below.refl _ _) nd); clear hnd)
                    | (go_at_call 59; refine (clone_int (some ad) c2 l2 _ (Kd.C_below HR2.out (B5.out.trans ((BI.out.trans (B6.out.mono BI.out.size)).mono B5.out.size))) hc2 (by omega)).mono ?_; rintro e w7 ⟨v7, rfl, hR7, hb7⟩; have B7 := Aside0.mk (B6.out.trans (hb7.mono B6.out.size)))
                    | (go_at_call 58; refine (delete_calls 3 w6.heap.size (fun _ => True) v7 l2 k hlt w7 hR7).mono ?_; rintro e w8 ⟨v8, rfl, hR8, hF8⟩; have B8 := Aside0.mk (B7.out.trans (hF8.below (B := wr.heap.size) (fun q hq => by have := Kd.R_base hR7 q hq; have := B6.out.size; omega) B7.out.size)))
                    | (at_builtin; refine Kd.R_append (Kd.int .i64) (w0 := w8) wr.heap.size rfl (.tmp 53) (.tmp 55) 34 3 (.int .i64 0) 8 rfl Try.underlying34 info3 rfl (by decide) (by omega) v8 (l2.take k ++ l2.drop (k + 1)) (o : Int) [.int .i64 (o : Int)] (fun q => wr.heap.size ≤ q) (fun _ => False) rfl rfl ?aP (fun _ hq => hq.elim) ?aF ?aO (Below.refl _ _) ?aS ?aL ?_;
                        (case aP => exact rfl);
                        (case aF => exact fun q hq => Nat.le_trans B8.out.size hq);
                        (case aO => exact Kd.R_mono (Kd.R_bound (Kd.R_lower hR8 B6.out.size)) (fun q hq => hq.2.1));
                        (case aS => exact B8.out.size);
                        (case aL => simp; omega);
                        rw [HYS.out]; intro v9 w9 hR9 hb9 hg9 hat9; obtain ⟨A9, c9, hv9, hc9, hC9⟩ := Kd.R_reads hR9; subst hv9; have B9 := Aside0.mk (B8.out.trans hb9))
                    | (go_at_call 56; refine (HNX.out A9 c9 _ (BI.out.trans (B9.out.mono BI.out.size)) hC9 hc9).mono ?_; rintro e w10 ⟨rfl, hb10⟩; have B10 := Aside0.mk (B9.out.trans (hb10.mono B9.out.size)); have K10 := Aside0.mk (blk_below K5.out (BI.out.trans (B10.out.mono BI.out.size))); have hnw := heap_alloc_new w10 (.cells #[.int .i64 n1, .int .i64 n2, .int .i64 n3] 49); have bkA := Aside0.mk (blk_cell (blk_below K10.out ((Below.refl _ w10).alloc (Nat.le_refl _) (.cells #[.int .i64 n1, .int .i64 n2, .int .i64 n3] 49)))); have bk0 := (bkA.out 0).trans rfl; have bk1 := (bkA.out 1).trans rfl; have HNW := Aside0.mk hnw; clear hnw)
                    | (go_at_call 60; refine (impl_Case_holds.calls a1_0 a1_1 n1 n2 n3 _ _ HHO.out).mono ?_; rintro e w11 ⟨rfl, hb11⟩; have B11 := Aside0.mk ((B10.out.alloc B10.out.size (.cells #[.int .i64 n1, .int .i64 n2, .int .i64 n3] 49)).trans (hb11.mono (by have := B10.out.size; simp; omega))); have bkI := blk_cell (blk_below HNW.out hb11); have bi2 := (bkI 2).trans rfl; clear bkI))
                    go_roundg (l0.length - (o + 1))
                    case measure => omega
                    case rel => exact ⟨o + 1, (n3, lx, (o : Int)), rfl, rfl, rfl, by go_num, by omega, by omega, ⟨by have := HST.out; rw [HX.out] at this; simpa [hgt] using this⟩, ⟨BI.out.trans (B11.out.mono BI.out.size)⟩⟩
                  · go_wp2_with (first
                    | (go_at_call 57; refine (HCT.out.mono ?_); rintro e w6 ⟨rfl, nd, hnd⟩; have B6 := Aside0.mk (show Below wr.heap.size wr w6 by rw [hnd]; exact pw_below_drewN (Below.refl _ _) nd); clear hnd)
                    | (go_at_call 59; refine (clone_int (some ad) c2 l2 _ (Kd.C_below HR2.out (B5.out.trans ((BI.out.trans (B6.out.mono BI.out.size)).mono B5.out.size))) hc2 (by omega)).mono ?_; rintro e w7 ⟨v7, rfl, hR7, hb7⟩; have B7 := Aside0.mk (B6.out.trans (hb7.mono B6.out.size)))
                    | (go_at_call 58; refine (delete_calls 3 w6.heap.size (fun _ => True) v7 l2 k hlt w7 hR7).mono ?_; rintro e w8 ⟨v8, rfl, hR8, hF8⟩; have B8 := Aside0.mk (B7.out.trans (hF8.below (B := wr.heap.size) (fun q hq => by have := Kd.R_base hR7 q hq; have := B6.out.size; omega) B7.out.size)))
                    | (at_builtin; refine Kd.R_append (Kd.int .i64) (w0 := w8) wr.heap.size rfl (.tmp 53) (.tmp 55) 34 3 (.int .i64 0) 8 rfl Try.underlying34 info3 rfl (by decide) (by omega) v8 (l2.take k ++ l2.drop (k + 1)) (o : Int) [.int .i64 (o : Int)] (fun q => wr.heap.size ≤ q) (fun _ => False) rfl rfl ?aP (fun _ hq => hq.elim) ?aF ?aO (Below.refl _ _) ?aS ?aL ?_;
                        (case aP => exact rfl);
                        (case aF => exact fun q hq => Nat.le_trans B8.out.size hq);
                        (case aO => exact Kd.R_mono (Kd.R_bound (Kd.R_lower hR8 B6.out.size)) (fun q hq => hq.2.1));
                        (case aS => exact B8.out.size);
                        (case aL => simp; omega);
                        rw [HYS.out]; intro v9 w9 hR9 hb9 hg9 hat9; obtain ⟨A9, c9, hv9, hc9, hC9⟩ := Kd.R_reads hR9; subst hv9; have B9 := Aside0.mk (B8.out.trans hb9))
                    | (go_at_call 56; refine (HNX.out A9 c9 _ (BI.out.trans (B9.out.mono BI.out.size)) hC9 hc9).mono ?_; rintro e w10 ⟨rfl, hb10⟩; have B10 := Aside0.mk (B9.out.trans (hb10.mono B9.out.size)); have K10 := Aside0.mk (blk_below K5.out (BI.out.trans (B10.out.mono BI.out.size))); have hnw := heap_alloc_new w10 (.cells #[.int .i64 n1, .int .i64 n2, .int .i64 n3] 49); have bkA := Aside0.mk (blk_cell (blk_below K10.out ((Below.refl _ w10).alloc (Nat.le_refl _) (.cells #[.int .i64 n1, .int .i64 n2, .int .i64 n3] 49)))); have bk0 := (bkA.out 0).trans rfl; have bk1 := (bkA.out 1).trans rfl; have HNW := Aside0.mk hnw; clear hnw)
                    | (go_at_call 60; refine (impl_Case_holds.calls a1_0 a1_1 n1 n2 n3 _ _ HHO.out).mono ?_; rintro e w11 ⟨rfl, hb11⟩; have B11 := Aside0.mk ((B10.out.alloc B10.out.size (.cells #[.int .i64 n1, .int .i64 n2, .int .i64 n3] 49)).trans (hb11.mono (by have := B10.out.size; simp; omega))); have bkI := blk_cell (blk_below HNW.out hb11); have bi2 := (bkI 2).trans rfl; clear bkI))
                    go_roundg (l0.length - (o + 1))
                    case measure => omega
                    case rel => exact ⟨o + 1, (t1, t2, t3), rfl, rfl, rfl, by go_num, by omega, by omega, ⟨by have := HST.out; rw [if_neg (by decide), if_neg (fun h => by have := h.2; omega)] at this; exact this⟩, ⟨BI.out.trans (B11.out.mono BI.out.size)⟩⟩
            · have hltz2 : ¬ (o : Int) < (l0.length : Int) := by omega
              have hi := HI.out
              rw [show l0.length - o = 0 by omega] at hi
              have HI2 := Aside0.mk hi
              clear hi
              go_wp2
              go_roundg (l2.length - (k + 1))
              case measure => omega
              case rel =>
                refine ⟨k + 1, (t1, t2, t3), rfl, rfl, rfl, by go_num, by omega, by omega, ⟨?_⟩, BI⟩
                rw [← HF.out, show l2.length - k = (l2.length - (k + 1)) + 1 by omega, exOut_step, ← HI2.out]
                rfl
        · have hltz : ¬ (k : Int) < (l2.length : Int) := by omega
          have hf := HF.out
          rw [show l2.length - k = 0 by omega] at hf
          have hfin : exOut l0 a1_0 a1_1 l2 0 k (s1, s2, s3) = (s1, s2, s3) := rfl
          rw [hfin] at hf
          have hh := H.out
          rw [← hf] at hh
          clear hf
          simp only at hh
          have HH := Aside0.mk hh
          clear hh H
          by_cases hneg : s2 < 0
          · go_wp2
            go_ret3
            have hh := HH.out
            rw [if_pos hneg] at hh
            simp only [Option.some.injEq, Prod.mk.injEq] at hh
            obtain ⟨rfl, rfl, rfl⟩ := hh
            exact ⟨rfl, B5.out.trans (BR.out.mono B5.out.size)⟩
          · go_wp2
            go_ret3
            have hh := HH.out
            rw [if_neg (by omega)] at hh
            simp only [Option.some.injEq, Prod.mk.injEq] at hh
            obtain ⟨rfl, rfl, rfl⟩ := hh
            exact ⟨rfl, B5.out.trans (BR.out.mono B5.out.size)⟩
end Go.Proofs.Ytkaihdpmjlhlaaa.Q

namespace Go.Proofs.Ytkaihdpmjlhlaaa.Q
open Go.RowKit Go.Proofs.YtkaihdpmjlhlaaaW.PrintWords Go.Proofs.YtkaihdpmjlhlaaaW.PrintLast Go.Proofs.YtkaihdpmjlhlaaaW.PrintMore
attribute [local go_sem] max2_int min2_int max_two min_two max_three min_three max_four min_four   -- for this text's walks alone
set_option linter.unusedVariables false
set_option linter.unusedSimpArgs false

/-! ### laws_FnExactBestExchange: function 7 -/
def laws_FnExactBestExchange.j0 : Nat → List (S51) → List Int → List (S49) → List Int → Bool → Option (Bool)
  | 0, _, _, _, _, _ => none
  | k + 1, x0, x2, x11, x12, x60 => if x60 = true then (some false) else ((laws_toItemS.f k x0).bind fun t482 => ((laws_eqItemS.f k x11 t482).bind fun t485 => (if t485 = true then ((laws_toIntS.f k x2).bind fun t486 => ((laws_eqIntS.f k x12 t486).bind fun t489 => (if t489 = true then (some true) else (some false)))) else (some false))))
def laws_FnExactBestExchange.f (k : Nat) (l0 : List (S51)) (a1_0 : Int) (a1_1 : Int) (l2 : List Int) : Option (Bool) := if (l2.length : Int) > 1048576 then (some true) else ((laws_szItemS.f l0 1048576).bind fun t459 => (if t459 < 0 then (some true) else ((laws_toItemS.f k l0).bind fun t460 => ((laws_toCase.f a1_0 a1_1).bind fun bt463 => ((laws_toIntS.f k l2).bind fun t465 => ((spec_BestExchange.f k t460 bt463.1 bt463.2 t465).bind fun bt468 => ((laws_toItemS.f k l0).bind fun t471 => ((laws_toIntS.f k l2).bind fun t474 => ((laws_toCase.f a1_0 a1_1).bind fun bt477 => ((impl_BestExchange.f t471 bt477.1 bt477.2 t474).bind fun bt479 => (if bt479.1 = bt468.1 then (if bt479.2.1 = bt468.2.1 then (laws_FnExactBestExchange.j0 k l0 l2 t471 t474 (bt479.2.2 != bt468.2.2)) else (laws_FnExactBestExchange.j0 k l0 l2 t471 t474 true)) else (laws_FnExactBestExchange.j0 k l0 l2 t471 t474 true))))))))))))
theorem laws_FnExactBestExchange.mono_l : ∀ k, (∀ y0 y1 y2 y3 y4, LeO (laws_FnExactBestExchange.j0 k y0 y1 y2 y3 y4) (laws_FnExactBestExchange.j0 (k + 1) y0 y1 y2 y3 y4))
  | 0 => fun _ _ _ _ _ r h => by simp [laws_FnExactBestExchange.j0] at h
  | k + 1 => by
    have ih0 := laws_FnExactBestExchange.mono_l k
    · intro y0 y1 y2 y3 y4
      unfold laws_FnExactBestExchange.j0
      repeat' first
      | (with_reducible exact ih0 _ _ _ _ _)
      | (with_reducible exact laws_eqIntS.mono _ _ _)
      | (with_reducible exact laws_eqItemS.mono _ _ _)
      | (with_reducible exact laws_toIntS.mono _ _)
      | (with_reducible exact laws_toItemS.mono _ _)
      | (with_reducible exact spec_BestExchange.mono _ _ _ _ _)
      | (with_reducible exact LeO.refl _)
      | (with_reducible exact LeO.none _)
      | (with_reducible refine LeO.ite ?_ ?_)
      | (with_reducible refine LeO.bind ?_ (fun _ => ?_))
      | exact ih0 _ _ _ _ _
      | exact laws_eqIntS.mono _ _ _
      | exact laws_eqItemS.mono _ _ _
      | exact laws_toIntS.mono _ _
      | exact laws_toItemS.mono _ _
      | exact spec_BestExchange.mono _ _ _ _ _
      | exact LeO.none _
      | refine LeO.ite ?_ ?_
      | refine LeO.bind ?_ (fun _ => ?_)
theorem laws_FnExactBestExchange.mono : ∀ a0 a1 a2 a3 k, LeO (laws_FnExactBestExchange.f k a0 a1 a2 a3) (laws_FnExactBestExchange.f (k + 1) a0 a1 a2 a3) := by
  intro a0 a1 a2 a3 k
  have ih0 := laws_FnExactBestExchange.mono_l k
  unfold laws_FnExactBestExchange.f
  repeat' first
      | (with_reducible exact ih0 _ _ _ _ _)
      | (with_reducible exact laws_eqIntS.mono _ _ _)
      | (with_reducible exact laws_eqItemS.mono _ _ _)
      | (with_reducible exact laws_toIntS.mono _ _)
      | (with_reducible exact laws_toItemS.mono _ _)
      | (with_reducible exact spec_BestExchange.mono _ _ _ _ _)
      | (with_reducible exact LeO.refl _)
      | (with_reducible exact LeO.none _)
      | (with_reducible refine LeO.ite ?_ ?_)
      | (with_reducible refine LeO.bind ?_ (fun _ => ?_))
      | exact ih0 _ _ _ _ _
      | exact laws_eqIntS.mono _ _ _
      | exact laws_eqItemS.mono _ _ _
      | exact laws_toIntS.mono _ _
      | exact laws_toItemS.mono _ _
      | exact spec_BestExchange.mono _ _ _ _ _
      | exact LeO.none _
      | refine LeO.ite ?_ ?_
      | refine LeO.bind ?_ (fun _ => ?_)
def laws_FnExactBestExchange.T7 : Bool × List (List Nat × List Nat) := (true, [([], []), ([0], [0]), ([], []), ([2, 1], [2]), ([], []), ([4, 3], [4]), ([1, 3, 5, 5], [1, 3, 5]), ([6], [6]), ([7], [7]), ([7], [7]), ([7], [7]), ([8, 6, 0, 1, 2, 3, 4, 5, 6, 7, 8], [8]), ([9, 11, 0, 1, 2, 3, 4, 5, 6, 7, 8, 9, 11], [9]), ([10, 12, 0, 1, 2, 3, 4, 5, 6, 7, 8, 9, 10, 11, 12], [10])])
def laws_FnExactBestExchange.B7 : List Nat := [0, 1, 0, 7, 0, 31, 63, 127, 255, 255, 255, 511, 3071, 8191]
theorem laws_FnExactBestExchange.tab7 : rtab .any (opsOf Try.f7 7) = laws_FnExactBestExchange.T7 := by kernel_rfl
theorem laws_FnExactBestExchange.bits7 : waitsOk laws_FnExactBestExchange.T7.2 laws_FnExactBestExchange.B7 = true := by kernel_rfl
set_option maxHeartbeats 8000000 in
set_option maxRecDepth 100000 in
theorem laws_FnExactBestExchange.calls (k : Nat) (A0 : Option Addr) (c0 : Nat) (l0 : List (S51)) (a1_0 : Int) (a1_1 : Int) (A2 : Option Addr) (c2 : Nat) (l2 : List Int) (r : Bool) (w : World) (hr0 : Kd.C k51 w A0 l0.length l0) (hc0 : l0.length ≤ c0) (hr2 : Kd.C (Kd.int .i64) w A2 l2.length l2) (hc2 : l2.length ≤ c2) (h : laws_FnExactBestExchange.f k l0 a1_0 a1_1 l2 = some r) :
    Calls Try.prog 7 #[.slice A0 l0.length c0, .agg #[.int .i64 a1_0, .int .i64 a1_1], .slice A2 l2.length c2] w fun e w' => e = .returned (.bool r) ∧ Below w.heap.size w w' := by
  have hu24 := Try.underlying24
  have HR0 := Aside0.mk hr0
  have HC0 := Aside0.mk hc0
  clear hr0 hc0
  have HR2 := Aside0.mk hr2
  have HC2 := Aside0.mk hc2
  clear hr2 hc2
  have HB := Aside0.mk (Below.refl w.heap.size w)
  have H : (if (l2.length : Int) > 1048576 then (some true) else ((laws_szItemS.f l0 1048576).bind fun t459 => (if t459 < 0 then (some true) else ((laws_toItemS.f k l0).bind fun t460 => ((laws_toCase.f a1_0 a1_1).bind fun bt463 => ((laws_toIntS.f k l2).bind fun t465 => ((spec_BestExchange.f k t460 bt463.1 bt463.2 t465).bind fun bt468 => ((laws_toItemS.f k l0).bind fun t471 => ((laws_toIntS.f k l2).bind fun t474 => ((laws_toCase.f a1_0 a1_1).bind fun bt477 => ((impl_BestExchange.f t471 bt477.1 bt477.2 t474).bind fun bt479 => (if bt479.1 = bt468.1 then (if bt479.2.1 = bt468.2.1 then (laws_FnExactBestExchange.j0 k l0 l2 t471 t474 (bt479.2.2 != bt468.2.2)) else (laws_FnExactBestExchange.j0 k l0 l2 t471 t474 true)) else (laws_FnExactBestExchange.j0 k l0 l2 t471 t474 true))))))))))))) = some r := h
  clear h
  by_cases c4 : (l2.length : Int) > 1048576
  · rw [if_pos c4] at H
    have c4b0 : decide (1048576 < (l2.length : Int)) = true := decide_eq_true c4
    have c4b1 : decide (1048576 < l2.length) = true := decide_eq_true (by omega)
    clear c4
    obtain rfl := Option.some.inj H
    go_enter Try.func7, Try.ntmps7
    go_wp2_with (first | ((with_reducible refine gate_dst (N := 4) rfl ?_); refine box_event ?hg (N := 4) ?hd (cs := #[.int .i64 a1_0, .int .i64 a1_1]) (t := 24) ?hr ?_; (case hd => rfl); (case hg => rfl); (case hr => first | (go_simp; done) | (go_simp; rfl)); intro gb458 hg w5 hbox hb; have n0_ := Aside0.mk (below_step (by repeat (first | (with_reducible first | exact HB.out | apply below_alloc | apply pw_below_drewN | apply below_drew1) | exact HB.out)) hb); have n1_ := Aside0.mk (hbox); have n2_ := Aside0.mk ((by rw [hg]; exact (below_size (by repeat (first | (with_reducible first | exact HB.out | apply below_alloc | apply pw_below_drewN | apply below_drew1) | exact HB.out))) : w.heap.size ≤ gb458)); have n3_ := Aside0.mk ((by rw [hg]; exact (below_size (by repeat (first | (with_reducible first | exact HB.out | apply below_alloc | apply pw_below_drewN | apply below_drew1) | exact HB.out))) : w.heap.size ≤ gb458)); clear HB; have HB := n0_; have BK458 := n1_; have GW458 := n2_; have GE458 := n3_; clear n0_ n1_ n2_ n3_; clear hb hbox hg))
    go_ret
    exact ⟨by first | rfl | (simp [errW_none, errW_some] <;> rfl) | (simp [*, errW_none, errW_some] <;> rfl), by repeat (first | (with_reducible first | exact HB.out | apply below_alloc | apply pw_below_drewN | apply below_drew1 | refine below_set ?_ GE458.out) | exact HB.out)⟩
  · rw [if_neg c4] at H
    have c4b0 : decide (1048576 < (l2.length : Int)) = false := decide_eq_false c4
    have c4b1 : decide (1048576 < l2.length) = false := decide_eq_false (by omega)
    clear c4
    replace H := Option.bind_eq_some_iff.mp H
    obtain ⟨t459, A60, H⟩ := H
    replace H : (if t459 < 0 then (some true) else ((laws_toItemS.f k l0).bind fun t460 => ((laws_toCase.f a1_0 a1_1).bind fun bt463 => ((laws_toIntS.f k l2).bind fun t465 => ((spec_BestExchange.f k t460 bt463.1 bt463.2 t465).bind fun bt468 => ((laws_toItemS.f k l0).bind fun t471 => ((laws_toIntS.f k l2).bind fun t474 => ((laws_toCase.f a1_0 a1_1).bind fun bt477 => ((impl_BestExchange.f t471 bt477.1 bt477.2 t474).bind fun bt479 => (if bt479.1 = bt468.1 then (if bt479.2.1 = bt468.2.1 then (laws_FnExactBestExchange.j0 k l0 l2 t471 t474 (bt479.2.2 != bt468.2.2)) else (laws_FnExactBestExchange.j0 k l0 l2 t471 t474 true)) else (laws_FnExactBestExchange.j0 k l0 l2 t471 t474 true))))))))))) = some r := H
    have A6 := Aside0.mk A60
    clear A60
    by_cases c7 : t459 < 0
    · rw [if_pos c7] at H
      have c7b0 : decide (t459 < 0) = true := decide_eq_true c7
      clear c7
      obtain rfl := Option.some.inj H
      go_enter Try.func7, Try.ntmps7
      go_wp2_with (first | ((with_reducible refine gate_dst (N := 4) rfl ?_); refine box_event ?hg (N := 4) ?hd (cs := #[.int .i64 a1_0, .int .i64 a1_1]) (t := 24) ?hr ?_; (case hd => rfl); (case hg => rfl); (case hr => first | (go_simp; done) | (go_simp; rfl)); intro gb458 hg w8 hbox hb; have n0_ := Aside0.mk (below_step (by repeat (first | (with_reducible first | exact HB.out | apply below_alloc | apply pw_below_drewN | apply below_drew1) | exact HB.out)) hb); have n1_ := Aside0.mk (hbox); have n2_ := Aside0.mk ((by rw [hg]; exact (below_size (by repeat (first | (with_reducible first | exact HB.out | apply below_alloc | apply pw_below_drewN | apply below_drew1) | exact HB.out))) : w.heap.size ≤ gb458)); have n3_ := Aside0.mk ((by rw [hg]; exact (below_size (by repeat (first | (with_reducible first | exact HB.out | apply below_alloc | apply pw_below_drewN | apply below_drew1) | exact HB.out))) : w.heap.size ≤ gb458)); clear HB; have HB := n0_; have BK458 := n1_; have GW458 := n2_; have GE458 := n3_; clear n0_ n1_ n2_ n3_; clear hb hbox hg) | ((with_reducible refine gate_callee (f := 11) rfl ?_); refine goesL_ (some 21) rfl rfl Try.func11 (by kernel_rfl) rfl #[.slice A0 l0.length c0, .int .i64 1048576] rfl (by (try simp only [List.map_toArray, List.map_cons, List.map_nil]); first | done | rfl | (simp only [List.length_drop, List.length_take]; rfl)) ?_; (with_reducible refine (laws_szItemS.calls _ _ l0 1048576 t459 _ ?side1 ?side2 A6.out).mono ?_); (case side1 => repeat (first | exact (Kd.C_below HR0.out HB.out) | (with_reducible refine Kd.C_alloc ?_ _) | (with_reducible refine Kd.C_drewN ?_ _) | (with_reducible refine Kd.C_drew ?_))); (case side2 => exact HC0.out); rintro e w' ⟨rfl, ⟨nd, rfl⟩⟩; refine ⟨_, rfl, ?_⟩))
      go_ret
      exact ⟨by first | rfl | (simp [errW_none, errW_some] <;> rfl) | (simp [*, errW_none, errW_some] <;> rfl), by repeat (first | (with_reducible first | exact HB.out | apply below_alloc | apply pw_below_drewN | apply below_drew1 | refine below_set ?_ GE458.out) | exact HB.out)⟩
    · rw [if_neg c7] at H
      have c7b0 : decide (t459 < 0) = false := decide_eq_false c7
      clear c7
      replace H := Option.bind_eq_some_iff.mp H
      obtain ⟨t460, A90, H⟩ := H
      replace H : ((laws_toCase.f a1_0 a1_1).bind fun bt463 => ((laws_toIntS.f k l2).bind fun t465 => ((spec_BestExchange.f k t460 bt463.1 bt463.2 t465).bind fun bt468 => ((laws_toItemS.f k l0).bind fun t471 => ((laws_toIntS.f k l2).bind fun t474 => ((laws_toCase.f a1_0 a1_1).bind fun bt477 => ((impl_BestExchange.f t471 bt477.1 bt477.2 t474).bind fun bt479 => (if bt479.1 = bt468.1 then (if bt479.2.1 = bt468.2.1 then (laws_FnExactBestExchange.j0 k l0 l2 t471 t474 (bt479.2.2 != bt468.2.2)) else (laws_FnExactBestExchange.j0 k l0 l2 t471 t474 true)) else (laws_FnExactBestExchange.j0 k l0 l2 t471 t474 true))))))))) = some r := H
      have A9 := Aside0.mk A90
      clear A90
      replace H := Option.bind_eq_some_iff.mp H
      obtain ⟨⟨t463, t464⟩, A100, H⟩ := H
      replace H : ((laws_toIntS.f k l2).bind fun t465 => ((spec_BestExchange.f k t460 t463 t464 t465).bind fun bt468 => ((laws_toItemS.f k l0).bind fun t471 => ((laws_toIntS.f k l2).bind fun t474 => ((laws_toCase.f a1_0 a1_1).bind fun bt477 => ((impl_BestExchange.f t471 bt477.1 bt477.2 t474).bind fun bt479 => (if bt479.1 = bt468.1 then (if bt479.2.1 = bt468.2.1 then (laws_FnExactBestExchange.j0 k l0 l2 t471 t474 (bt479.2.2 != bt468.2.2)) else (laws_FnExactBestExchange.j0 k l0 l2 t471 t474 true)) else (laws_FnExactBestExchange.j0 k l0 l2 t471 t474 true)))))))) = some r := H
      have A10 := Aside0.mk A100
      clear A100
      replace H := Option.bind_eq_some_iff.mp H
      obtain ⟨t465, A110, H⟩ := H
      replace H : ((spec_BestExchange.f k t460 t463 t464 t465).bind fun bt468 => ((laws_toItemS.f k l0).bind fun t471 => ((laws_toIntS.f k l2).bind fun t474 => ((laws_toCase.f a1_0 a1_1).bind fun bt477 => ((impl_BestExchange.f t471 bt477.1 bt477.2 t474).bind fun bt479 => (if bt479.1 = bt468.1 then (if bt479.2.1 = bt468.2.1 then (laws_FnExactBestExchange.j0 k l0 l2 t471 t474 (bt479.2.2 != bt468.2.2)) else (laws_FnExactBestExchange.j0 k l0 l2 t471 t474 true)) else (laws_FnExactBestExchange.j0 k l0 l2 t471 t474 true))))))) = some r := H
      have A11 := Aside0.mk A110
      clear A110
      replace H := Option.bind_eq_some_iff.mp H
      obtain ⟨⟨t468, t469, t470⟩, A120, H⟩ := H
      replace H : ((laws_toItemS.f k l0).bind fun t471 => ((laws_toIntS.f k l2).bind fun t474 => ((laws_toCase.f a1_0 a1_1).bind fun bt477 => ((impl_BestExchange.f t471 bt477.1 bt477.2 t474).bind fun bt479 => (if bt479.1 = t468 then (if bt479.2.1 = t469 then (laws_FnExactBestExchange.j0 k l0 l2 t471 t474 (bt479.2.2 != t470)) else (laws_FnExactBestExchange.j0 k l0 l2 t471 t474 true)) else (laws_FnExactBestExchange.j0 k l0 l2 t471 t474 true)))))) = some r := H
      have A12 := Aside0.mk A120
      clear A120
      replace H := Option.bind_eq_some_iff.mp H
      obtain ⟨t471, A130, H⟩ := H
      replace H : ((laws_toIntS.f k l2).bind fun t474 => ((laws_toCase.f a1_0 a1_1).bind fun bt477 => ((impl_BestExchange.f t471 bt477.1 bt477.2 t474).bind fun bt479 => (if bt479.1 = t468 then (if bt479.2.1 = t469 then (laws_FnExactBestExchange.j0 k l0 l2 t471 t474 (bt479.2.2 != t470)) else (laws_FnExactBestExchange.j0 k l0 l2 t471 t474 true)) else (laws_FnExactBestExchange.j0 k l0 l2 t471 t474 true))))) = some r := H
      have A13 := Aside0.mk A130
      clear A130
      replace H := Option.bind_eq_some_iff.mp H
      obtain ⟨t474, A140, H⟩ := H
      replace H : ((laws_toCase.f a1_0 a1_1).bind fun bt477 => ((impl_BestExchange.f t471 bt477.1 bt477.2 t474).bind fun bt479 => (if bt479.1 = t468 then (if bt479.2.1 = t469 then (laws_FnExactBestExchange.j0 k l0 l2 t471 t474 (bt479.2.2 != t470)) else (laws_FnExactBestExchange.j0 k l0 l2 t471 t474 true)) else (laws_FnExactBestExchange.j0 k l0 l2 t471 t474 true)))) = some r := H
      have A14 := Aside0.mk A140
      clear A140
      replace H := Option.bind_eq_some_iff.mp H
      obtain ⟨⟨t477, t478⟩, A150, H⟩ := H
      replace H : ((impl_BestExchange.f t471 t477 t478 t474).bind fun bt479 => (if bt479.1 = t468 then (if bt479.2.1 = t469 then (laws_FnExactBestExchange.j0 k l0 l2 t471 t474 (bt479.2.2 != t470)) else (laws_FnExactBestExchange.j0 k l0 l2 t471 t474 true)) else (laws_FnExactBestExchange.j0 k l0 l2 t471 t474 true))) = some r := H
      have A15 := Aside0.mk A150
      clear A150
      replace H := Option.bind_eq_some_iff.mp H
      obtain ⟨⟨t479, t480, t481⟩, A160, H⟩ := H
      replace H : (if t479 = t468 then (if t480 = t469 then (laws_FnExactBestExchange.j0 k l0 l2 t471 t474 (t481 != t470)) else (laws_FnExactBestExchange.j0 k l0 l2 t471 t474 true)) else (laws_FnExactBestExchange.j0 k l0 l2 t471 t474 true)) = some r := H
      have A16 := Aside0.mk A160
      clear A160
      have HC17 := Aside0.mk H
      clear H
      go_enter Try.func7, Try.ntmps7
      try go_wp2_with (first | ((with_reducible refine gate_dst (N := 4) rfl ?_); refine box_event ?hg (N := 4) ?hd (cs := #[.int .i64 a1_0, .int .i64 a1_1]) (t := 24) ?hr ?_; (case hd => rfl); (case hg => rfl); (case hr => first | (go_simp; done) | (go_simp; rfl)); intro gb458 hg w18 hbox hb; have n0_ := Aside0.mk (below_step (by repeat (first | (with_reducible first | exact HB.out | apply below_alloc | apply pw_below_drewN | apply below_drew1) | exact HB.out)) hb); have n1_ := Aside0.mk (hbox); have n2_ := Aside0.mk ((by rw [hg]; exact (below_size (by repeat (first | (with_reducible first | exact HB.out | apply below_alloc | apply pw_below_drewN | apply below_drew1) | exact HB.out))) : w.heap.size ≤ gb458)); have n3_ := Aside0.mk ((by rw [hg]; exact (below_size (by repeat (first | (with_reducible first | exact HB.out | apply below_alloc | apply pw_below_drewN | apply below_drew1) | exact HB.out))) : w.heap.size ≤ gb458)); clear HB; have HB := n0_; have BK458 := n1_; have GW458 := n2_; have GE458 := n3_; clear n0_ n1_ n2_ n3_; clear hb hbox hg) | ((with_reducible refine gate_callee (f := 11) rfl ?_); refine goesL_ (some 21) rfl rfl Try.func11 (by kernel_rfl) rfl #[.slice A0 l0.length c0, .int .i64 1048576] rfl (by (try simp only [List.map_toArray, List.map_cons, List.map_nil]); first | done | rfl | (simp only [List.length_drop, List.length_take]; rfl)) ?_; (with_reducible refine (laws_szItemS.calls _ _ l0 1048576 t459 _ ?side1 ?side2 A6.out).mono ?_); (case side1 => repeat (first | exact (Kd.C_below HR0.out HB.out) | (with_reducible refine Kd.C_alloc ?_ _) | (with_reducible refine Kd.C_drewN ?_ _) | (with_reducible refine Kd.C_drew ?_))); (case side2 => exact HC0.out); rintro e w' ⟨rfl, ⟨nd, rfl⟩⟩; refine ⟨_, rfl, ?_⟩))
      (try (rw [drewN_self w18]; generalize hq_ : World.drewN w18 _ = w18; have n0_ : Aside0 (w18.heap[gb458]? = some (.cells #[.int .i64 a1_0, .int .i64 a1_1] 24 (0, 0))) := ⟨by rw [← hq_]; exact (by (with_reducible repeat (first | refine blk_drewN ?_ _ | refine blk_drew ?_ | refine blk_alloc ?_ _)); exact BK458.out)⟩; have n1_ : Aside0 (Below w.heap.size w w18) := ⟨by rw [← hq_]; exact (by repeat (first | (with_reducible first | exact HB.out | apply below_alloc | apply pw_below_drewN | apply below_drew1 | refine below_set ?_ GE458.out) | exact HB.out))⟩; clear BK458 HB hq_; have BK458 := n0_; have HB := n1_; clear n0_ n1_))
      have n0_ := Aside0.mk (blk_drew BK458.out)
      have n1_ := Aside0.mk (below_drew1 HB.out)
      clear BK458
      clear HB
      have BK458 := n0_
      have HB := n1_
      clear n0_ n1_
      refine start_ (n := 14) (S := fun w' => w'.cell? ⟨gb458, 0, none⟩ = some (.int .i64 a1_0) ∧ w'.cell? ⟨gb458, 1, none⟩ = some (.int .i64 a1_1)) (ds := []) #[false, false, false, false, false, false, false, false, false, false, false, false, false, false] (by kernel_rfl) rfl rfl ⟨(blk_cell BK458.out 0).trans rfl, (blk_cell BK458.out 1).trans rfl⟩ (fun hHeld => ?_); refine with_tabW laws_FnExactBestExchange.tab7 laws_FnExactBestExchange.bits7 (fun HT_ HW_ => ?_)
      generalize w18.drew = w19 at BK458 HB hHeld ⊢
      refine pure_ (i := 0) (N := some 25) (v := ?_) (a' := ?_) #[true, false, false, false, false, false, false, false, false, false, false, false, false, false] rfl rfl (any_of HT_.out (by kernel_rfl)) (fun _ _ _ h => h) (Or.inl ⟨by rfl, ?_⟩) ?_ ?_
      rotate_left
      · intro w'
        go_simp
        with_reducible rfl
      rotate_left
      · simp only [Act.put, List.setIfInBounds_toArray, List.set_cons_zero, List.set_cons_succ, i64_w, i32_w]
        rfl
      refine pure_ (i := 4) (N := some 29) (v := ?_) (a' := ?_) #[true, false, false, false, true, false, false, false, false, false, false, false, false, false] rfl rfl (any_of HT_.out (by kernel_rfl)) (fun _ _ _ h => h) (Or.inl ⟨by rfl, ?_⟩) ?_ ?_
      rotate_left
      · intro w'
        go_simp
        with_reducible rfl
      rotate_left
      · simp only [Act.put, List.setIfInBounds_toArray, List.set_cons_zero, List.set_cons_succ, i64_w, i32_w]
        rfl
      refine take_ (i := 2) (N := some 27) (v := ?_) (a' := ?_) #[true, false, true, false, true, false, false, false, false, false, false, false, false, false] rfl rfl (take_ofW HT_.out HW_.out (by kernel_rfl)) (fun _ _ _ h => h) (Or.inl ⟨by rfl, ?_⟩) hHeld ?_ ?_
      rotate_left
      · rintro w' ⟨s0, s1⟩
        go_simp
        with_reducible rfl
      rotate_left
      · simp only [Act.put, List.setIfInBounds_toArray, List.set_cons_zero, List.set_cons_succ, i64_w, i32_w]
        rfl
      refine one_ (i := 1) (N := some 26) #[true, true, true, false, true, false, false, false, false, false, false, false, false, false] rfl rfl (one_of HT_.out (by kernel_rfl)) (by decide) (fun K hK => ?_)
      refine goes_ Try.func13 (by kernel_rfl) rfl #[.slice A0 l0.length c0] (by rfl) rfl rfl (by (try simp only [List.map_toArray, List.map_cons, List.map_nil]); first | done | rfl | (simp only [List.length_drop, List.length_take]; rfl)) ?_
      with_reducible refine (laws_toItemS.calls k _ _ l0 t460 _ ?side1 ?side2 A9.out).mono ?_
      (case side1 => repeat (first | exact (Kd.C_below HR0.out HB.out) | (with_reducible refine Kd.C_alloc ?_ _) | (with_reducible refine Kd.C_drewN ?_ _) | (with_reducible refine Kd.C_drew ?_)))
      (case side2 => exact HC0.out)
      rintro e w20 ⟨v461, rfl, ho0, hb⟩
      refine ⟨_, rfl, ?_⟩
      have n0_ := Aside0.mk (Kd.R_lower ho0 (below_size (by repeat (first | (with_reducible first | exact HB.out | apply below_alloc | apply pw_below_drewN | apply below_drew1 | refine below_set ?_ GE458.out) | exact HB.out))))
      have n1_ := Aside0.mk (blk_below (g := gb458) (o := .cells #[.int .i64 a1_0, .int .i64 a1_1] 24 (0, 0)) (by (with_reducible repeat (first | refine blk_drewN ?_ _ | refine blk_drew ?_ | refine blk_alloc ?_ _)); exact BK458.out) hb)
      have n2_ := Aside0.mk (below_step (by repeat (first | (with_reducible first | exact HB.out | apply below_alloc | apply pw_below_drewN | apply below_drew1 | refine below_set ?_ GE458.out) | exact HB.out)) hb)
      clear BK458
      clear HB
      have HO462 := n0_
      have BK458 := n1_
      have HB := n2_
      clear n0_ n1_ n2_
      (try clear hb)
      (try clear hb2)
      (try clear hk)
      (try clear hi)
      (try clear ho0)
      refine hK.out _ _ ⟨(blk_cell BK458.out 0).trans rfl, (blk_cell BK458.out 1).trans rfl⟩ (fun hHeld => ?_)
      clear hK K
      refine norm_ (a' := ?_) ?_ ?_
      rotate_left
      · show Act.put _ (some 26) _ = _
        simp only [Act.put, List.setIfInBounds_toArray, List.set_cons_zero, List.set_cons_succ, i64_w, i32_w]
        rfl
      refine one_ (i := 3) (N := some 28) #[true, true, true, true, true, false, false, false, false, false, false, false, false, false] rfl rfl (one_of HT_.out (by kernel_rfl)) (by decide) (fun K hK => ?_)
      refine goes_ Try.func14 (by kernel_rfl) rfl #[.agg #[.int .i64 a1_0, .int .i64 a1_1]] (by rfl) rfl rfl (by (try simp only [List.map_toArray, List.map_cons, List.map_nil]); first | done | rfl | (simp only [List.length_drop, List.length_take]; rfl)) ?_
      with_reducible refine (laws_toCase.calls a1_0 a1_1 t463 t464 _ A10.out).mono ?_
      rintro e w21 ⟨rfl, hb⟩
      refine ⟨_, rfl, ?_⟩
      have n0_ := Aside0.mk (Kd.R_below (by (with_reducible repeat (first | apply Kd.R_alloc | apply Kd.R_drewN | apply Kd.R_drew)); exact HO462.out) hb)
      have n1_ := Aside0.mk (blk_below (g := gb458) (o := .cells #[.int .i64 a1_0, .int .i64 a1_1] 24 (0, 0)) (by (with_reducible repeat (first | refine blk_drewN ?_ _ | refine blk_drew ?_ | refine blk_alloc ?_ _)); exact BK458.out) hb)
      have n2_ := Aside0.mk (below_step (by repeat (first | (with_reducible first | exact HB.out | apply below_alloc | apply pw_below_drewN | apply below_drew1 | refine below_set ?_ GE458.out) | exact HB.out)) hb)
      clear HO462
      clear BK458
      clear HB
      have HO462 := n0_
      have BK458 := n1_
      have HB := n2_
      clear n0_ n1_ n2_
      (try clear hb)
      (try clear hb2)
      (try clear hk)
      (try clear hi)
      refine hK.out _ _ ⟨(blk_cell BK458.out 0).trans rfl, (blk_cell BK458.out 1).trans rfl⟩ (fun hHeld => ?_)
      clear hK K
      refine norm_ (a' := ?_) ?_ ?_
      rotate_left
      · show Act.put _ (some 28) _ = _
        simp only [Act.put, List.setIfInBounds_toArray, List.set_cons_zero, List.set_cons_succ, i64_w, i32_w]
        rfl
      refine one_ (i := 5) (N := some 30) #[true, true, true, true, true, true, false, false, false, false, false, false, false, false] rfl rfl (one_of HT_.out (by kernel_rfl)) (by decide) (fun K hK => ?_)
      refine goes_ Try.func28 (by kernel_rfl) rfl #[.slice A2 l2.length c2] (by rfl) rfl rfl (by (try simp only [List.map_toArray, List.map_cons, List.map_nil]); first | done | rfl | (simp only [List.length_drop, List.length_take]; rfl)) ?_
      with_reducible refine (laws_toIntS.calls k _ _ l2 t465 _ ?side1 ?side2 A11.out).mono ?_
      (case side1 => repeat (first | exact (Kd.C_below HR2.out HB.out) | (with_reducible refine Kd.C_alloc ?_ _) | (with_reducible refine Kd.C_drewN ?_ _) | (with_reducible refine Kd.C_drew ?_)))
      (case side2 => exact HC2.out)
      rintro e w22 ⟨v466, rfl, ho0, hb⟩
      refine ⟨_, rfl, ?_⟩
      have n0_ := Aside0.mk (Kd.R_below (by (with_reducible repeat (first | apply Kd.R_alloc | apply Kd.R_drewN | apply Kd.R_drew)); exact HO462.out) hb)
      have n1_ := Aside0.mk (Kd.R_lower ho0 (below_size (by repeat (first | (with_reducible first | exact HB.out | apply below_alloc | apply pw_below_drewN | apply below_drew1 | refine below_set ?_ GE458.out) | exact HB.out))))
      have n2_ := Aside0.mk (blk_below (g := gb458) (o := .cells #[.int .i64 a1_0, .int .i64 a1_1] 24 (0, 0)) (by (with_reducible repeat (first | refine blk_drewN ?_ _ | refine blk_drew ?_ | refine blk_alloc ?_ _)); exact BK458.out) hb)
      have n3_ := Aside0.mk (below_step (by repeat (first | (with_reducible first | exact HB.out | apply below_alloc | apply pw_below_drewN | apply below_drew1 | refine below_set ?_ GE458.out) | exact HB.out)) hb)
      clear HO462
      clear BK458
      clear HB
      have HO462 := n0_
      have HO467 := n1_
      have BK458 := n2_
      have HB := n3_
      clear n0_ n1_ n2_ n3_
      (try clear hb)
      (try clear hb2)
      (try clear hk)
      (try clear hi)
      (try clear ho0)
      obtain ⟨Ao23, co23, eo23⟩ := Kd.R_slice HO462.out
      (first | subst eo23 | (injection eo23 with f1_ f2_ f3_; have f4_ := f1_.symm; have f5_ := f3_.symm; clear f1_ f2_ f3_; subst f4_; subst f5_))
      obtain ⟨Ao24, co24, eo24⟩ := Kd.R_slice HO467.out
      (first | subst eo24 | (injection eo24 with f1_ f2_ f3_; have f4_ := f1_.symm; have f5_ := f3_.symm; clear f1_ f2_ f3_; subst f4_; subst f5_))
      refine hK.out _ _ ⟨(blk_cell BK458.out 0).trans rfl, (blk_cell BK458.out 1).trans rfl⟩ (fun hHeld => ?_)
      clear hK K
      refine norm_ (a' := ?_) ?_ ?_
      rotate_left
      · show Act.put _ (some 30) _ = _
        simp only [Act.put, List.setIfInBounds_toArray, List.set_cons_zero, List.set_cons_succ, i64_w, i32_w]
        rfl
      refine one_ (i := 6) (N := some 31) #[true, true, true, true, true, true, true, false, false, false, false, false, false, false] rfl rfl (one_of HT_.out (by kernel_rfl)) (by decide) (fun K hK => ?_)
      refine goes_ Try.func27 (by kernel_rfl) rfl #[.slice Ao23 t460.length co23, .agg #[.int .i64 t463, .int .i64 t464], .slice Ao24 t465.length co24] (by rfl) rfl rfl (by (try simp only [List.map_toArray, List.map_cons, List.map_nil]); first | done | rfl | (simp only [List.length_drop, List.length_take]; rfl)) ?_
      with_reducible refine (spec_BestExchange.calls k _ _ t460 t463 t464 _ _ t465 t468 t469 t470 _ ?side1 ?side2 ?side3 ?side4 A12.out).mono ?_
      (case side1 => repeat (first | exact (Kd.R_reads' HO462.out).2.2 | (with_reducible refine Kd.C_alloc ?_ _) | (with_reducible refine Kd.C_drewN ?_ _) | (with_reducible refine Kd.C_drew ?_)))
      (case side2 => exact (Kd.R_reads' HO462.out).2.1)
      (case side3 => repeat (first | exact (Kd.R_reads' HO467.out).2.2 | (with_reducible refine Kd.C_alloc ?_ _) | (with_reducible refine Kd.C_drewN ?_ _) | (with_reducible refine Kd.C_drew ?_)))
      (case side4 => exact (Kd.R_reads' HO467.out).2.1)
      rintro e w25 ⟨rfl, hb⟩
      refine ⟨_, rfl, ?_⟩
      have n0_ := Aside0.mk (Kd.R_below (by (with_reducible repeat (first | apply Kd.R_alloc | apply Kd.R_drewN | apply Kd.R_drew)); exact HO462.out) hb)
      have n1_ := Aside0.mk (Kd.R_below (by (with_reducible repeat (first | apply Kd.R_alloc | apply Kd.R_drewN | apply Kd.R_drew)); exact HO467.out) hb)
      have n2_ := Aside0.mk (blk_below (g := gb458) (o := .cells #[.int .i64 a1_0, .int .i64 a1_1] 24 (0, 0)) (by (with_reducible repeat (first | refine blk_drewN ?_ _ | refine blk_drew ?_ | refine blk_alloc ?_ _)); exact BK458.out) hb)
      have n3_ := Aside0.mk (below_step (by repeat (first | (with_reducible first | exact HB.out | apply below_alloc | apply pw_below_drewN | apply below_drew1 | refine below_set ?_ GE458.out) | exact HB.out)) hb)
      clear HO462
      clear HO467
      clear BK458
      clear HB
      have HO462 := n0_
      have HO467 := n1_
      have BK458 := n2_
      have HB := n3_
      clear n0_ n1_ n2_ n3_
      (try clear hb)
      (try clear hb2)
      (try clear hk)
      (try clear hi)
      refine hK.out _ _ ⟨(blk_cell BK458.out 0).trans rfl, (blk_cell BK458.out 1).trans rfl⟩ (fun hHeld => ?_)
      clear hK K
      refine norm_ (a' := ?_) ?_ ?_
      rotate_left
      · show Act.put _ (some 31) _ = _
        simp only [Act.put, List.setIfInBounds_toArray, List.set_cons_zero, List.set_cons_succ, i64_w, i32_w]
        rfl
      refine pure_ (i := 7) (N := some 24) (v := ?_) (a' := ?_) #[true, true, true, true, true, true, true, true, false, false, false, false, false, false] rfl rfl (any_of HT_.out (by kernel_rfl)) (fun _ _ _ h => h) (Or.inl ⟨by rfl, ?_⟩) ?_ ?_
      rotate_left
      · intro w'
        go_simp
        with_reducible rfl
      rotate_left
      · simp only [Act.put, List.setIfInBounds_toArray, List.set_cons_zero, List.set_cons_succ, i64_w, i32_w]
        rfl
      refine pure_ (i := 8) (N := some 32) (v := ?_) (a' := ?_) #[true, true, true, true, true, true, true, true, true, false, false, false, false, false] rfl rfl (any_of HT_.out (by kernel_rfl)) (fun _ _ _ h => h) (Or.inl ⟨by rfl, ?_⟩) ?_ ?_
      rotate_left
      · intro w'
        go_simp
        with_reducible rfl
      rotate_left
      · simp only [Act.put, List.setIfInBounds_toArray, List.set_cons_zero, List.set_cons_succ, i64_w, i32_w]
        rfl
      refine pure_ (i := 9) (N := some 33) (v := ?_) (a' := ?_) #[true, true, true, true, true, true, true, true, true, true, false, false, false, false] rfl rfl (any_of HT_.out (by kernel_rfl)) (fun _ _ _ h => h) (Or.inl ⟨by rfl, ?_⟩) ?_ ?_
      rotate_left
      · intro w'
        go_simp
        with_reducible rfl
      rotate_left
      · simp only [Act.put, List.setIfInBounds_toArray, List.set_cons_zero, List.set_cons_succ, i64_w, i32_w]
        rfl
      refine pure_ (i := 10) (N := some 34) (v := ?_) (a' := ?_) #[true, true, true, true, true, true, true, true, true, true, true, false, false, false] rfl rfl (any_of HT_.out (by kernel_rfl)) (fun _ _ _ h => h) (Or.inl ⟨by rfl, ?_⟩) ?_ ?_
      rotate_left
      · intro w'
        go_simp
        with_reducible rfl
      rotate_left
      · simp only [Act.put, List.setIfInBounds_toArray, List.set_cons_zero, List.set_cons_succ, i64_w, i32_w]
        rfl
      refine pure_ (i := 11) (N := some 8) (v := ?_) (a' := ?_) #[true, true, true, true, true, true, true, true, true, true, true, true, false, false] rfl rfl (any_of HT_.out (by kernel_rfl)) (fun _ _ _ h => h) (Or.inl ⟨by rfl, ?_⟩) ?_ ?_
      rotate_left
      · intro w'
        go_simp
        with_reducible rfl
      rotate_left
      · simp only [Act.put, List.setIfInBounds_toArray, List.set_cons_zero, List.set_cons_succ, i64_w, i32_w]
        rfl
      refine pure_ (i := 12) (N := some 9) (v := ?_) (a' := ?_) #[true, true, true, true, true, true, true, true, true, true, true, true, true, false] rfl rfl (any_of HT_.out (by kernel_rfl)) (fun _ _ _ h => h) (Or.inl ⟨by rfl, ?_⟩) ?_ ?_
      rotate_left
      · intro w'
        go_simp
        with_reducible rfl
      rotate_left
      · simp only [Act.put, List.setIfInBounds_toArray, List.set_cons_zero, List.set_cons_succ, i64_w, i32_w]
        rfl
      refine pure_ (i := 13) (N := some 10) (v := ?_) (a' := ?_) #[true, true, true, true, true, true, true, true, true, true, true, true, true, true] rfl rfl (any_of HT_.out (by kernel_rfl)) (fun _ _ _ h => h) (Or.inl ⟨by rfl, ?_⟩) ?_ ?_
      rotate_left
      · intro w'
        go_simp
        with_reducible rfl
      rotate_left
      · simp only [Act.put, List.setIfInBounds_toArray, List.set_cons_zero, List.set_cons_succ, i64_w, i32_w]
        rfl
      refine done_ (done_of HT_.out (by kernel_rfl)) ?_
      go_upto_region 11 with (first | ((with_reducible refine gate_callee (f := 13) rfl ?_); refine goesL_ (some 36) rfl rfl Try.func13 (by kernel_rfl) rfl #[.slice A0 l0.length c0] rfl (by (try simp only [List.map_toArray, List.map_cons, List.map_nil]); first | done | rfl | (simp only [List.length_drop, List.length_take]; rfl)) ?_; (with_reducible refine (laws_toItemS.calls k _ _ l0 t471 _ ?side1 ?side2 A13.out).mono ?_); (case side1 => repeat (first | exact (Kd.C_below HR0.out HB.out) | (with_reducible refine Kd.C_alloc ?_ _) | (with_reducible refine Kd.C_drewN ?_ _) | (with_reducible refine Kd.C_drew ?_))); (case side2 => exact HC0.out); rintro e w26 ⟨v472, rfl, ho0, hb⟩; refine ⟨_, rfl, ?_⟩; have n0_ := Aside0.mk (Kd.R_elder' (by (with_reducible repeat (first | apply Kd.R_alloc | apply Kd.R_drewN | apply Kd.R_drew)); exact HO462.out) (Kd.R_base ho0) hb); have n1_ := Aside0.mk (Kd.R_below (by (with_reducible repeat (first | apply Kd.R_alloc | apply Kd.R_drewN | apply Kd.R_drew)); exact HO467.out) hb); have n2_ := Aside0.mk (Kd.R_lower (Kd.R_new' ho0 (Kd.R_lt (by (with_reducible repeat (first | apply Kd.R_alloc | apply Kd.R_drewN | apply Kd.R_drew)); exact HO462.out))) (below_size (by repeat (first | (with_reducible first | exact HB.out | apply below_alloc | apply pw_below_drewN | apply below_drew1 | refine below_set ?_ GE458.out) | exact HB.out)))); have n3_ := Aside0.mk (blk_below (g := gb458) (o := .cells #[.int .i64 a1_0, .int .i64 a1_1] 24 (0, 0)) (by (with_reducible repeat (first | refine blk_drewN ?_ _ | refine blk_drew ?_ | refine blk_alloc ?_ _)); exact BK458.out) hb); have n4_ := Aside0.mk (below_step (by repeat (first | (with_reducible first | exact HB.out | apply below_alloc | apply pw_below_drewN | apply below_drew1 | refine below_set ?_ GE458.out) | exact HB.out)) hb); clear HO462; clear HO467; clear BK458; clear HB; have HO462 := n0_; have HO467 := n1_; have HO473 := n2_; have BK458 := n3_; have HB := n4_; clear n0_ n1_ n2_ n3_ n4_; (try clear hb); (try clear hb2); (try clear hk); (try clear hi); (try clear ho0)) | ((with_reducible refine gate_callee (f := 28) rfl ?_); refine goesL_ (some 38) rfl rfl Try.func28 (by kernel_rfl) rfl #[.slice A2 l2.length c2] rfl (by (try simp only [List.map_toArray, List.map_cons, List.map_nil]); first | done | rfl | (simp only [List.length_drop, List.length_take]; rfl)) ?_; (with_reducible refine (laws_toIntS.calls k _ _ l2 t474 _ ?side1 ?side2 A14.out).mono ?_); (case side1 => repeat (first | exact (Kd.C_below HR2.out HB.out) | (with_reducible refine Kd.C_alloc ?_ _) | (with_reducible refine Kd.C_drewN ?_ _) | (with_reducible refine Kd.C_drew ?_))); (case side2 => exact HC2.out); rintro e w27 ⟨v475, rfl, ho0, hb⟩; refine ⟨_, rfl, ?_⟩; have n0_ := Aside0.mk (Kd.R_below (by (with_reducible repeat (first | apply Kd.R_alloc | apply Kd.R_drewN | apply Kd.R_drew)); exact HO462.out) hb); have n1_ := Aside0.mk (Kd.R_elder' (by (with_reducible repeat (first | apply Kd.R_alloc | apply Kd.R_drewN | apply Kd.R_drew)); exact HO467.out) (Kd.R_base ho0) hb); have n2_ := Aside0.mk (Kd.R_below (by (with_reducible repeat (first | apply Kd.R_alloc | apply Kd.R_drewN | apply Kd.R_drew)); exact HO473.out) hb); have n3_ := Aside0.mk (Kd.R_lower (Kd.R_new' ho0 (Kd.R_lt (by (with_reducible repeat (first | apply Kd.R_alloc | apply Kd.R_drewN | apply Kd.R_drew)); exact HO467.out))) (below_size (by repeat (first | (with_reducible first | exact HB.out | apply below_alloc | apply pw_below_drewN | apply below_drew1 | refine below_set ?_ GE458.out) | exact HB.out)))); have n4_ := Aside0.mk (blk_below (g := gb458) (o := .cells #[.int .i64 a1_0, .int .i64 a1_1] 24 (0, 0)) (by (with_reducible repeat (first | refine blk_drewN ?_ _ | refine blk_drew ?_ | refine blk_alloc ?_ _)); exact BK458.out) hb); have n5_ := Aside0.mk (below_step (by repeat (first | (with_reducible first | exact HB.out | apply below_alloc | apply pw_below_drewN | apply below_drew1 | refine below_set ?_ GE458.out) | exact HB.out)) hb); clear HO462; clear HO467; clear HO473; clear BK458; clear HB; have HO462 := n0_; have HO467 := n1_; have HO473 := n2_; have HO476 := n3_; have BK458 := n4_; have HB := n5_; clear n0_ n1_ n2_ n3_ n4_ n5_; (try clear hb); (try clear hb2); (try clear hk); (try clear hi); (try clear ho0); have hcz28_0 : w27.cell? ⟨gb458, 0, none⟩ = some (.int .i64 a1_0) := (blk_cell BK458.out 0).trans rfl; have hcz28_1 : w27.cell? ⟨gb458, 1, none⟩ = some (.int .i64 a1_1) := (blk_cell BK458.out 1).trans rfl; have hfz28_0 := blk_frozen BK458.out 0; have hfz28_1 := blk_frozen BK458.out 1) | ((with_reducible refine gate_callee (f := 14) rfl ?_); refine goesL_ (some 42) rfl rfl Try.func14 (by kernel_rfl) rfl #[.agg #[.int .i64 a1_0, .int .i64 a1_1]] rfl (by (try simp only [List.map_toArray, List.map_cons, List.map_nil]); first | done | rfl | (simp only [List.length_drop, List.length_take]; rfl)) ?_; (with_reducible refine (laws_toCase.calls a1_0 a1_1 t477 t478 _ A15.out).mono ?_); rintro e w29 ⟨rfl, hb⟩; refine ⟨_, rfl, ?_⟩; have n0_ := Aside0.mk (Kd.R_below (by (with_reducible repeat (first | apply Kd.R_alloc | apply Kd.R_drewN | apply Kd.R_drew)); exact HO462.out) hb); have n1_ := Aside0.mk (Kd.R_below (by (with_reducible repeat (first | apply Kd.R_alloc | apply Kd.R_drewN | apply Kd.R_drew)); exact HO467.out) hb); have n2_ := Aside0.mk (Kd.R_below (by (with_reducible repeat (first | apply Kd.R_alloc | apply Kd.R_drewN | apply Kd.R_drew)); exact HO473.out) hb); have n3_ := Aside0.mk (Kd.R_below (by (with_reducible repeat (first | apply Kd.R_alloc | apply Kd.R_drewN | apply Kd.R_drew)); exact HO476.out) hb); have n4_ := Aside0.mk (blk_below (g := gb458) (o := .cells #[.int .i64 a1_0, .int .i64 a1_1] 24 (0, 0)) (by (with_reducible repeat (first | refine blk_drewN ?_ _ | refine blk_drew ?_ | refine blk_alloc ?_ _)); exact BK458.out) hb); have n5_ := Aside0.mk (below_step (by repeat (first | (with_reducible first | exact HB.out | apply below_alloc | apply pw_below_drewN | apply below_drew1 | refine below_set ?_ GE458.out) | exact HB.out)) hb); clear HO462; clear HO467; clear HO473; clear HO476; clear BK458; clear HB; have HO462 := n0_; have HO467 := n1_; have HO473 := n2_; have HO476 := n3_; have BK458 := n4_; have HB := n5_; clear n0_ n1_ n2_ n3_ n4_ n5_; (try clear hb); (try clear hb2); (try clear hk); (try clear hi); obtain ⟨Ao30, co30, eo30⟩ := Kd.R_slice HO473.out; subst eo30; obtain ⟨Ao31, co31, eo31⟩ := Kd.R_slice HO476.out; subst eo31) | ((with_reducible refine gate_callee (f := 29) rfl ?_); refine goesL_ (some 44) rfl rfl Try.func29 (by kernel_rfl) rfl #[.slice Ao30 t471.length co30, .agg #[.int .i64 t477, .int .i64 t478], .slice Ao31 t474.length co31] rfl (by (try simp only [List.map_toArray, List.map_cons, List.map_nil]); first | done | rfl | (simp only [List.length_drop, List.length_take]; rfl)) ?_; (with_reducible refine (impl_BestExchange.calls _ _ t471 t477 t478 _ _ t474 t479 t480 t481 _ ?side1 ?side2 ?side3 ?side4 A16.out).mono ?_); (case side1 => repeat (first | exact (Kd.R_reads' HO473.out).2.2 | (with_reducible refine Kd.C_alloc ?_ _) | (with_reducible refine Kd.C_drewN ?_ _) | (with_reducible refine Kd.C_drew ?_))); (case side2 => exact (Kd.R_reads' HO473.out).2.1); (case side3 => repeat (first | exact (Kd.R_reads' HO476.out).2.2 | (with_reducible refine Kd.C_alloc ?_ _) | (with_reducible refine Kd.C_drewN ?_ _) | (with_reducible refine Kd.C_drew ?_))); (case side4 => exact (Kd.R_reads' HO476.out).2.1); rintro e w32 ⟨rfl, hb⟩; refine ⟨_, rfl, ?_⟩; have n0_ := Aside0.mk (Kd.R_below (by (with_reducible repeat (first | apply Kd.R_alloc | apply Kd.R_drewN | apply Kd.R_drew)); exact HO462.out) hb); have n1_ := Aside0.mk (Kd.R_below (by (with_reducible repeat (first | apply Kd.R_alloc | apply Kd.R_drewN | apply Kd.R_drew)); exact HO467.out) hb); have n2_ := Aside0.mk (Kd.R_below (by (with_reducible repeat (first | apply Kd.R_alloc | apply Kd.R_drewN | apply Kd.R_drew)); exact HO473.out) hb); have n3_ := Aside0.mk (Kd.R_below (by (with_reducible repeat (first | apply Kd.R_alloc | apply Kd.R_drewN | apply Kd.R_drew)); exact HO476.out) hb); have n4_ := Aside0.mk (blk_below (g := gb458) (o := .cells #[.int .i64 a1_0, .int .i64 a1_1] 24 (0, 0)) (by (with_reducible repeat (first | refine blk_drewN ?_ _ | refine blk_drew ?_ | refine blk_alloc ?_ _)); exact BK458.out) hb); have n5_ := Aside0.mk (below_step (by repeat (first | (with_reducible first | exact HB.out | apply below_alloc | apply pw_below_drewN | apply below_drew1 | refine below_set ?_ GE458.out) | exact HB.out)) hb); clear HO462; clear HO467; clear HO473; clear HO476; clear BK458; clear HB; have HO462 := n0_; have HO467 := n1_; have HO473 := n2_; have HO476 := n3_; have BK458 := n4_; have HB := n5_; clear n0_ n1_ n2_ n3_ n4_ n5_; (try clear hb); (try clear hb2); (try clear hk); (try clear hi)))
      (try simp only [Act.put, List.setIfInBounds_toArray, List.set_cons_zero, List.set_cons_succ])
      go_cut [60] (fun v60 wc => ∃ (kq : Nat) (x60_16 : Bool), v60 = .bool x60_16 ∧ Aside0 (laws_FnExactBestExchange.j0 kq l0 l2 t471 t474 x60_16 = some r) ∧ Aside0 (kq ≤ k) ∧ Aside0 (Kd.R k49 49 wc w.heap.size (fun _ => True) (.slice Ao30 t471.length co30) t471) ∧ Aside0 (Kd.R (Kd.int .i64) 3 wc w.heap.size (fun _ => True) (.slice Ao31 t474.length co31) t474) ∧ Aside0 (wc.heap[gb458]? = some (.cells #[.int .i64 a1_0, .int .i64 a1_1] 24 (0, 0))) ∧ Aside0 (Below w.heap.size w wc))
      case first =>
        have H := HC17.out
        clear HC17
        by_cases c33 : t479 = t468
        · rw [if_pos c33] at H
          have c33b0 : (t479 == t468) = true := beq_iff_eq.mpr c33
          have c33b1 : (t479 != t468) = false := bne_eq_false_iff_eq.mpr c33
          clear c33
          (first | rw [c33b0] | (simp only [i64_w, i32_w]; rw [c33b0]) | skip)
          by_cases c34 : t480 = t469
          · rw [if_pos c34] at H
            have c34b0 : (t480 == t469) = true := beq_iff_eq.mpr c34
            have c34b1 : (t480 != t469) = false := bne_eq_false_iff_eq.mpr c34
            clear c34
            have H' := Aside0.mk H
            clear H
            go_wp2
            go_meet
            case rel => exact ⟨_, ((t481 != t470)), (by first | rfl | (simp; done) | (simp [*]; done)), H', ⟨by first | omega | exact Nat.le_refl _⟩, ⟨by (with_reducible repeat (first | apply Kd.R_alloc | apply Kd.R_drewN | apply Kd.R_drew)); exact Kd.R_mono HO473.out (fun _ hk => trivial)⟩, ⟨by (with_reducible repeat (first | apply Kd.R_alloc | apply Kd.R_drewN | apply Kd.R_drew)); exact Kd.R_mono HO476.out (fun _ hk => trivial)⟩, ⟨by (with_reducible repeat (first | refine blk_drewN ?_ _ | refine blk_drew ?_ | refine blk_alloc ?_ _)); exact BK458.out⟩, ⟨by repeat (first | (with_reducible first | exact HB.out | apply below_alloc | apply pw_below_drewN | apply below_drew1 | refine below_set ?_ GE458.out) | exact HB.out)⟩⟩
          · rw [if_neg c34] at H
            have c34b0 : (t480 == t469) = false := beq_eq_false_iff_ne.mpr c34
            have c34b1 : (t480 != t469) = true := bne_iff_ne.mpr c34
            have H' := Aside0.mk H
            clear H
            go_wp2
            go_meet
            case rel => exact ⟨_, (true), (by first | rfl | (simp; done) | (simp [*]; done)), H', ⟨by first | omega | exact Nat.le_refl _⟩, ⟨by (with_reducible repeat (first | apply Kd.R_alloc | apply Kd.R_drewN | apply Kd.R_drew)); exact Kd.R_mono HO473.out (fun _ hk => trivial)⟩, ⟨by (with_reducible repeat (first | apply Kd.R_alloc | apply Kd.R_drewN | apply Kd.R_drew)); exact Kd.R_mono HO476.out (fun _ hk => trivial)⟩, ⟨by (with_reducible repeat (first | refine blk_drewN ?_ _ | refine blk_drew ?_ | refine blk_alloc ?_ _)); exact BK458.out⟩, ⟨by repeat (first | (with_reducible first | exact HB.out | apply below_alloc | apply pw_below_drewN | apply below_drew1 | refine below_set ?_ GE458.out) | exact HB.out)⟩⟩
        · rw [if_neg c33] at H
          have c33b0 : (t479 == t468) = false := beq_eq_false_iff_ne.mpr c33
          have c33b1 : (t479 != t468) = true := bne_iff_ne.mpr c33
          (first | rw [c33b0] | (simp only [i64_w, i32_w]; rw [c33b0]) | skip)
          have H' := Aside0.mk H
          clear H
          go_wp2
          go_meet
          case rel => exact ⟨_, (true), (by first | rfl | (simp; done) | (simp [*]; done)), H', ⟨by first | omega | exact Nat.le_refl _⟩, ⟨by (with_reducible repeat (first | apply Kd.R_alloc | apply Kd.R_drewN | apply Kd.R_drew)); exact Kd.R_mono HO473.out (fun _ hk => trivial)⟩, ⟨by (with_reducible repeat (first | apply Kd.R_alloc | apply Kd.R_drewN | apply Kd.R_drew)); exact Kd.R_mono HO476.out (fun _ hk => trivial)⟩, ⟨by (with_reducible repeat (first | refine blk_drewN ?_ _ | refine blk_drew ?_ | refine blk_alloc ?_ _)); exact BK458.out⟩, ⟨by repeat (first | (with_reducible first | exact HB.out | apply below_alloc | apply pw_below_drewN | apply below_drew1 | refine below_set ?_ GE458.out) | exact HB.out)⟩⟩
      case rest =>
        clear HC17
        try clear c1
        try clear c2
        try clear p2
        try clear c3
        try clear c4
        try clear c4b0
        try clear c4b1
        try clear c7
        try clear c7b0
        try clear c11
        try clear c13
        try clear c14
        try clear c27
        try clear c28
        try clear c29
        try clear c33
        try clear c33b0
        try clear c33b1
        try clear c34
        try clear c34b0
        try clear c34b1
        try clear hcz28_0
        try clear hcz28_1
        try clear hfz28_0
        try clear hfz28_1
        obtain ⟨kq, x60_16, rfl, HA, HJ16, HO_11, HO_12, BK458, HB⟩ := hcut
        cases kq with
        | zero => exact absurd HA.out (by simp [laws_FnExactBestExchange.j0])
        | succ kj16 =>
          have H := HA.out
          clear HA
          simp only [laws_FnExactBestExchange.j0] at H
          by_cases c35 : x60_16 = true
          · subst c35
            have H1 : (some false) = some r := by rw [if_pos rfl] at H; exact H
            clear H
            have H := H1
            clear H1
            obtain rfl := Option.some.inj H
            go_wp2
            go_ret
            exact ⟨by first | rfl | (simp [errW_none, errW_some] <;> rfl) | (simp [*, errW_none, errW_some] <;> rfl), by repeat (first | (with_reducible first | exact HB.out | apply below_alloc | apply pw_below_drewN | apply below_drew1 | refine below_set ?_ GE458.out) | exact HB.out)⟩
          · replace c35 := Bool.eq_false_iff.mpr c35
            subst c35
            have H1 : ((laws_toItemS.f kj16 l0).bind fun t482 => ((laws_eqItemS.f kj16 t471 t482).bind fun t485 => (if t485 = true then ((laws_toIntS.f kj16 l2).bind fun t486 => ((laws_eqIntS.f kj16 t474 t486).bind fun t489 => (if t489 = true then (some true) else (some false)))) else (some false)))) = some r := by rw [if_neg (show ¬ (false = true) by decide)] at H; exact H
            clear H
            have H := H1
            clear H1
            replace H := Option.bind_eq_some_iff.mp H
            obtain ⟨t482, A360, H⟩ := H
            replace H : ((laws_eqItemS.f kj16 t471 t482).bind fun t485 => (if t485 = true then ((laws_toIntS.f kj16 l2).bind fun t486 => ((laws_eqIntS.f kj16 t474 t486).bind fun t489 => (if t489 = true then (some true) else (some false)))) else (some false))) = some r := H
            have A36 := Aside0.mk A360
            clear A360
            replace H := Option.bind_eq_some_iff.mp H
            obtain ⟨t485, A370, H⟩ := H
            replace H : (if t485 = true then ((laws_toIntS.f kj16 l2).bind fun t486 => ((laws_eqIntS.f kj16 t474 t486).bind fun t489 => (if t489 = true then (some true) else (some false)))) else (some false)) = some r := H
            have A37 := Aside0.mk A370
            clear A370
            by_cases c38 : t485 = true
            · subst c38
              have H1 : ((laws_toIntS.f kj16 l2).bind fun t486 => ((laws_eqIntS.f kj16 t474 t486).bind fun t489 => (if t489 = true then (some true) else (some false)))) = some r := by rw [if_pos rfl] at H; exact H
              clear H
              have H := H1
              clear H1
              replace H := Option.bind_eq_some_iff.mp H
              obtain ⟨t486, A390, H⟩ := H
              replace H : ((laws_eqIntS.f kj16 t474 t486).bind fun t489 => (if t489 = true then (some true) else (some false))) = some r := H
              have A39 := Aside0.mk A390
              clear A390
              replace H := Option.bind_eq_some_iff.mp H
              obtain ⟨t489, A400, H⟩ := H
              replace H : (if t489 = true then (some true) else (some false)) = some r := H
              have A40 := Aside0.mk A400
              clear A400
              by_cases c41 : t489 = true
              · subst c41
                have H1 : (some true) = some r := by rw [if_pos rfl] at H; exact H
                clear H
                have H := H1
                clear H1
                obtain rfl := Option.some.inj H
                go_wp2_with (first | ((with_reducible refine gate_callee (f := 13) rfl ?_); refine goesL_ (some 63) rfl rfl Try.func13 (by kernel_rfl) rfl #[.slice A0 l0.length c0] rfl (by (try simp only [List.map_toArray, List.map_cons, List.map_nil]); first | done | rfl | (simp only [List.length_drop, List.length_take]; rfl)) ?_; (with_reducible refine (laws_toItemS.calls kj16 _ _ l0 t482 _ ?side1 ?side2 A36.out).mono ?_); (case side1 => repeat (first | exact (Kd.C_below HR0.out HB.out) | (with_reducible refine Kd.C_alloc ?_ _) | (with_reducible refine Kd.C_drewN ?_ _) | (with_reducible refine Kd.C_drew ?_))); (case side2 => exact HC0.out); rintro e w42 ⟨v483, rfl, ho0, hb⟩; refine ⟨_, rfl, ?_⟩; have n0_ := Aside0.mk (Kd.R_elder' (by (with_reducible repeat (first | apply Kd.R_alloc | apply Kd.R_drewN | apply Kd.R_drew)); exact HO_11.out) (Kd.R_base ho0) hb); have n1_ := Aside0.mk (Kd.R_below (by (with_reducible repeat (first | apply Kd.R_alloc | apply Kd.R_drewN | apply Kd.R_drew)); exact HO_12.out) hb); have n2_ := Aside0.mk (Kd.R_lower (Kd.R_new' ho0 (Kd.R_lt (by (with_reducible repeat (first | apply Kd.R_alloc | apply Kd.R_drewN | apply Kd.R_drew)); exact HO_11.out))) (below_size (by repeat (first | (with_reducible first | exact HB.out | apply below_alloc | apply pw_below_drewN | apply below_drew1 | refine below_set ?_ GE458.out) | exact HB.out)))); have n3_ := Aside0.mk (blk_below (g := gb458) (o := .cells #[.int .i64 a1_0, .int .i64 a1_1] 24 (0, 0)) (by (with_reducible repeat (first | refine blk_drewN ?_ _ | refine blk_drew ?_ | refine blk_alloc ?_ _)); exact BK458.out) hb); have n4_ := Aside0.mk (below_step (by repeat (first | (with_reducible first | exact HB.out | apply below_alloc | apply pw_below_drewN | apply below_drew1 | refine below_set ?_ GE458.out) | exact HB.out)) hb); clear HO_11; clear HO_12; clear BK458; clear HB; have HO_11 := n0_; have HO_12 := n1_; have HO484 := n2_; have BK458 := n3_; have HB := n4_; clear n0_ n1_ n2_ n3_ n4_; (try clear hb); (try clear hb2); (try clear hk); (try clear hi); (try clear ho0); obtain ⟨Ao43, co43, eo43⟩ := Kd.R_slice HO484.out; subst eo43) | ((with_reducible refine gate_callee (f := 16) rfl ?_); refine goesL_ (some 64) rfl rfl Try.func16 (by kernel_rfl) rfl #[.slice Ao30 t471.length co30, .slice Ao43 t482.length co43] rfl (by (try simp only [List.map_toArray, List.map_cons, List.map_nil]); first | done | rfl | (simp only [List.length_drop, List.length_take]; rfl)) ?_; (with_reducible refine (laws_eqItemS.calls kj16 _ _ t471 _ _ t482 true _ ?side1 ?side2 ?side3 ?side4 A37.out).mono ?_); (case side1 => repeat (first | exact (Kd.R_reads' HO_11.out).2.2 | (with_reducible refine Kd.C_alloc ?_ _) | (with_reducible refine Kd.C_drewN ?_ _) | (with_reducible refine Kd.C_drew ?_))); (case side2 => exact (Kd.R_reads' HO_11.out).2.1); (case side3 => repeat (first | exact (Kd.R_reads' HO484.out).2.2 | (with_reducible refine Kd.C_alloc ?_ _) | (with_reducible refine Kd.C_drewN ?_ _) | (with_reducible refine Kd.C_drew ?_))); (case side4 => exact (Kd.R_reads' HO484.out).2.1); rintro e w44 ⟨rfl, hb⟩; refine ⟨_, rfl, ?_⟩; have n0_ := Aside0.mk (Kd.R_below (by (with_reducible repeat (first | apply Kd.R_alloc | apply Kd.R_drewN | apply Kd.R_drew)); exact HO_11.out) hb); have n1_ := Aside0.mk (Kd.R_below (by (with_reducible repeat (first | apply Kd.R_alloc | apply Kd.R_drewN | apply Kd.R_drew)); exact HO_12.out) hb); have n2_ := Aside0.mk (Kd.R_below (by (with_reducible repeat (first | apply Kd.R_alloc | apply Kd.R_drewN | apply Kd.R_drew)); exact HO484.out) hb); have n3_ := Aside0.mk (blk_below (g := gb458) (o := .cells #[.int .i64 a1_0, .int .i64 a1_1] 24 (0, 0)) (by (with_reducible repeat (first | refine blk_drewN ?_ _ | refine blk_drew ?_ | refine blk_alloc ?_ _)); exact BK458.out) hb); have n4_ := Aside0.mk (below_step (by repeat (first | (with_reducible first | exact HB.out | apply below_alloc | apply pw_below_drewN | apply below_drew1 | refine below_set ?_ GE458.out) | exact HB.out)) hb); clear HO_11; clear HO_12; clear HO484; clear BK458; clear HB; have HO_11 := n0_; have HO_12 := n1_; have HO484 := n2_; have BK458 := n3_; have HB := n4_; clear n0_ n1_ n2_ n3_ n4_; (try clear hb); (try clear hb2); (try clear hk); (try clear hi)) | ((with_reducible refine gate_callee (f := 28) rfl ?_); refine goesL_ (some 68) rfl rfl Try.func28 (by kernel_rfl) rfl #[.slice A2 l2.length c2] rfl (by (try simp only [List.map_toArray, List.map_cons, List.map_nil]); first | done | rfl | (simp only [List.length_drop, List.length_take]; rfl)) ?_; (with_reducible refine (laws_toIntS.calls kj16 _ _ l2 t486 _ ?side1 ?side2 A39.out).mono ?_); (case side1 => repeat (first | exact (Kd.C_below HR2.out HB.out) | (with_reducible refine Kd.C_alloc ?_ _) | (with_reducible refine Kd.C_drewN ?_ _) | (with_reducible refine Kd.C_drew ?_))); (case side2 => exact HC2.out); rintro e w45 ⟨v487, rfl, ho0, hb⟩; refine ⟨_, rfl, ?_⟩; have n0_ := Aside0.mk (Kd.R_below (by (with_reducible repeat (first | apply Kd.R_alloc | apply Kd.R_drewN | apply Kd.R_drew)); exact HO_11.out) hb); have n1_ := Aside0.mk (Kd.R_elder' (by (with_reducible repeat (first | apply Kd.R_alloc | apply Kd.R_drewN | apply Kd.R_drew)); exact HO_12.out) (Kd.R_base ho0) hb); have n2_ := Aside0.mk (Kd.R_below (by (with_reducible repeat (first | apply Kd.R_alloc | apply Kd.R_drewN | apply Kd.R_drew)); exact HO484.out) hb); have n3_ := Aside0.mk (Kd.R_lower (Kd.R_new' ho0 (Kd.R_lt (by (with_reducible repeat (first | apply Kd.R_alloc | apply Kd.R_drewN | apply Kd.R_drew)); exact HO_12.out))) (below_size (by repeat (first | (with_reducible first | exact HB.out | apply below_alloc | apply pw_below_drewN | apply below_drew1 | refine below_set ?_ GE458.out) | exact HB.out)))); have n4_ := Aside0.mk (blk_below (g := gb458) (o := .cells #[.int .i64 a1_0, .int .i64 a1_1] 24 (0, 0)) (by (with_reducible repeat (first | refine blk_drewN ?_ _ | refine blk_drew ?_ | refine blk_alloc ?_ _)); exact BK458.out) hb); have n5_ := Aside0.mk (below_step (by repeat (first | (with_reducible first | exact HB.out | apply below_alloc | apply pw_below_drewN | apply below_drew1 | refine below_set ?_ GE458.out) | exact HB.out)) hb); clear HO_11; clear HO_12; clear HO484; clear BK458; clear HB; have HO_11 := n0_; have HO_12 := n1_; have HO484 := n2_; have HO488 := n3_; have BK458 := n4_; have HB := n5_; clear n0_ n1_ n2_ n3_ n4_ n5_; (try clear hb); (try clear hb2); (try clear hk); (try clear hi); (try clear ho0); obtain ⟨Ao46, co46, eo46⟩ := Kd.R_slice HO488.out; subst eo46) | ((with_reducible refine gate_callee (f := 21) rfl ?_); refine goesL_ (some 69) rfl rfl Try.func21 (by kernel_rfl) rfl #[.slice Ao31 t474.length co31, .slice Ao46 t486.length co46] rfl (by (try simp only [List.map_toArray, List.map_cons, List.map_nil]); first | done | rfl | (simp only [List.length_drop, List.length_take]; rfl)) ?_; (with_reducible refine (laws_eqIntS.calls kj16 _ _ t474 _ _ t486 true _ ?side1 ?side2 ?side3 ?side4 A40.out).mono ?_); (case side1 => repeat (first | exact (Kd.R_reads' HO_12.out).2.2 | (with_reducible refine Kd.C_alloc ?_ _) | (with_reducible refine Kd.C_drewN ?_ _) | (with_reducible refine Kd.C_drew ?_))); (case side2 => exact (Kd.R_reads' HO_12.out).2.1); (case side3 => repeat (first | exact (Kd.R_reads' HO488.out).2.2 | (with_reducible refine Kd.C_alloc ?_ _) | (with_reducible refine Kd.C_drewN ?_ _) | (with_reducible refine Kd.C_drew ?_))); (case side4 => exact (Kd.R_reads' HO488.out).2.1); rintro e w' ⟨rfl, ⟨nd, rfl⟩⟩; refine ⟨_, rfl, ?_⟩))
                go_ret
                exact ⟨by first | rfl | (simp [errW_none, errW_some] <;> rfl) | (simp [*, errW_none, errW_some] <;> rfl), by repeat (first | (with_reducible first | exact HB.out | apply below_alloc | apply pw_below_drewN | apply below_drew1 | refine below_set ?_ GE458.out) | exact HB.out)⟩
              · replace c41 := Bool.eq_false_iff.mpr c41
                subst c41
                have H1 : (some false) = some r := by rw [if_neg (show ¬ (false = true) by decide)] at H; exact H
                clear H
                have H := H1
                clear H1
                obtain rfl := Option.some.inj H
                go_wp2_with (first | ((with_reducible refine gate_callee (f := 13) rfl ?_); refine goesL_ (some 63) rfl rfl Try.func13 (by kernel_rfl) rfl #[.slice A0 l0.length c0] rfl (by (try simp only [List.map_toArray, List.map_cons, List.map_nil]); first | done | rfl | (simp only [List.length_drop, List.length_take]; rfl)) ?_; (with_reducible refine (laws_toItemS.calls kj16 _ _ l0 t482 _ ?side1 ?side2 A36.out).mono ?_); (case side1 => repeat (first | exact (Kd.C_below HR0.out HB.out) | (with_reducible refine Kd.C_alloc ?_ _) | (with_reducible refine Kd.C_drewN ?_ _) | (with_reducible refine Kd.C_drew ?_))); (case side2 => exact HC0.out); rintro e w47 ⟨v483, rfl, ho0, hb⟩; refine ⟨_, rfl, ?_⟩; have n0_ := Aside0.mk (Kd.R_elder' (by (with_reducible repeat (first | apply Kd.R_alloc | apply Kd.R_drewN | apply Kd.R_drew)); exact HO_11.out) (Kd.R_base ho0) hb); have n1_ := Aside0.mk (Kd.R_below (by (with_reducible repeat (first | apply Kd.R_alloc | apply Kd.R_drewN | apply Kd.R_drew)); exact HO_12.out) hb); have n2_ := Aside0.mk (Kd.R_lower (Kd.R_new' ho0 (Kd.R_lt (by (with_reducible repeat (first | apply Kd.R_alloc | apply Kd.R_drewN | apply Kd.R_drew)); exact HO_11.out))) (below_size (by repeat (first | (with_reducible first | exact HB.out | apply below_alloc | apply pw_below_drewN | apply below_drew1 | refine below_set ?_ GE458.out) | exact HB.out)))); have n3_ := Aside0.mk (blk_below (g := gb458) (o := .cells #[.int .i64 a1_0, .int .i64 a1_1] 24 (0, 0)) (by (with_reducible repeat (first | refine blk_drewN ?_ _ | refine blk_drew ?_ | refine blk_alloc ?_ _)); exact BK458.out) hb); have n4_ := Aside0.mk (below_step (by repeat (first | (with_reducible first | exact HB.out | apply below_alloc | apply pw_below_drewN | apply below_drew1 | refine below_set ?_ GE458.out) | exact HB.out)) hb); clear HO_11; clear HO_12; clear BK458; clear HB; have HO_11 := n0_; have HO_12 := n1_; have HO484 := n2_; have BK458 := n3_; have HB := n4_; clear n0_ n1_ n2_ n3_ n4_; (try clear hb); (try clear hb2); (try clear hk); (try clear hi); (try clear ho0); obtain ⟨Ao48, co48, eo48⟩ := Kd.R_slice HO484.out; subst eo48) | ((with_reducible refine gate_callee (f := 16) rfl ?_); refine goesL_ (some 64) rfl rfl Try.func16 (by kernel_rfl) rfl #[.slice Ao30 t471.length co30, .slice Ao48 t482.length co48] rfl (by (try simp only [List.map_toArray, List.map_cons, List.map_nil]); first | done | rfl | (simp only [List.length_drop, List.length_take]; rfl)) ?_; (with_reducible refine (laws_eqItemS.calls kj16 _ _ t471 _ _ t482 true _ ?side1 ?side2 ?side3 ?side4 A37.out).mono ?_); (case side1 => repeat (first | exact (Kd.R_reads' HO_11.out).2.2 | (with_reducible refine Kd.C_alloc ?_ _) | (with_reducible refine Kd.C_drewN ?_ _) | (with_reducible refine Kd.C_drew ?_))); (case side2 => exact (Kd.R_reads' HO_11.out).2.1); (case side3 => repeat (first | exact (Kd.R_reads' HO484.out).2.2 | (with_reducible refine Kd.C_alloc ?_ _) | (with_reducible refine Kd.C_drewN ?_ _) | (with_reducible refine Kd.C_drew ?_))); (case side4 => exact (Kd.R_reads' HO484.out).2.1); rintro e w49 ⟨rfl, hb⟩; refine ⟨_, rfl, ?_⟩; have n0_ := Aside0.mk (Kd.R_below (by (with_reducible repeat (first | apply Kd.R_alloc | apply Kd.R_drewN | apply Kd.R_drew)); exact HO_11.out) hb); have n1_ := Aside0.mk (Kd.R_below (by (with_reducible repeat (first | apply Kd.R_alloc | apply Kd.R_drewN | apply Kd.R_drew)); exact HO_12.out) hb); have n2_ := Aside0.mk (Kd.R_below (by (with_reducible repeat (first | apply Kd.R_alloc | apply Kd.R_drewN | apply Kd.R_drew)); exact HO484.out) hb); have n3_ := Aside0.mk (blk_below (g := gb458) (o := .cells #[.int .i64 a1_0, .int .i64 a1_1] 24 (0, 0)) (by (with_reducible repeat (first | refine blk_drewN ?_ _ | refine blk_drew ?_ | refine blk_alloc ?_ _)); exact BK458.out) hb); have n4_ := Aside0.mk (below_step (by repeat (first | (with_reducible first | exact HB.out | apply below_alloc | apply pw_below_drewN | apply below_drew1 | refine below_set ?_ GE458.out) | exact HB.out)) hb); clear HO_11; clear HO_12; clear HO484; clear BK458; clear HB; have HO_11 := n0_; have HO_12 := n1_; have HO484 := n2_; have BK458 := n3_; have HB := n4_; clear n0_ n1_ n2_ n3_ n4_; (try clear hb); (try clear hb2); (try clear hk); (try clear hi)) | ((with_reducible refine gate_callee (f := 28) rfl ?_); refine goesL_ (some 68) rfl rfl Try.func28 (by kernel_rfl) rfl #[.slice A2 l2.length c2] rfl (by (try simp only [List.map_toArray, List.map_cons, List.map_nil]); first | done | rfl | (simp only [List.length_drop, List.length_take]; rfl)) ?_; (with_reducible refine (laws_toIntS.calls kj16 _ _ l2 t486 _ ?side1 ?side2 A39.out).mono ?_); (case side1 => repeat (first | exact (Kd.C_below HR2.out HB.out) | (with_reducible refine Kd.C_alloc ?_ _) | (with_reducible refine Kd.C_drewN ?_ _) | (with_reducible refine Kd.C_drew ?_))); (case side2 => exact HC2.out); rintro e w50 ⟨v487, rfl, ho0, hb⟩; refine ⟨_, rfl, ?_⟩; have n0_ := Aside0.mk (Kd.R_below (by (with_reducible repeat (first | apply Kd.R_alloc | apply Kd.R_drewN | apply Kd.R_drew)); exact HO_11.out) hb); have n1_ := Aside0.mk (Kd.R_elder' (by (with_reducible repeat (first | apply Kd.R_alloc | apply Kd.R_drewN | apply Kd.R_drew)); exact HO_12.out) (Kd.R_base ho0) hb); have n2_ := Aside0.mk (Kd.R_below (by (with_reducible repeat (first | apply Kd.R_alloc | apply Kd.R_drewN | apply Kd.R_drew)); exact HO484.out) hb); have n3_ := Aside0.mk (Kd.R_lower (Kd.R_new' ho0 (Kd.R_lt (by (with_reducible repeat (first | apply Kd.R_alloc | apply Kd.R_drewN | apply Kd.R_drew)); exact HO_12.out))) (below_size (by repeat (first | (with_reducible first | exact HB.out | apply below_alloc | apply pw_below_drewN | apply below_drew1 | refine below_set ?_ GE458.out) | exact HB.out)))); have n4_ := Aside0.mk (blk_below (g := gb458) (o := .cells #[.int .i64 a1_0, .int .i64 a1_1] 24 (0, 0)) (by (with_reducible repeat (first | refine blk_drewN ?_ _ | refine blk_drew ?_ | refine blk_alloc ?_ _)); exact BK458.out) hb); have n5_ := Aside0.mk (below_step (by repeat (first | (with_reducible first | exact HB.out | apply below_alloc | apply pw_below_drewN | apply below_drew1 | refine below_set ?_ GE458.out) | exact HB.out)) hb); clear HO_11; clear HO_12; clear HO484; clear BK458; clear HB; have HO_11 := n0_; have HO_12 := n1_; have HO484 := n2_; have HO488 := n3_; have BK458 := n4_; have HB := n5_; clear n0_ n1_ n2_ n3_ n4_ n5_; (try clear hb); (try clear hb2); (try clear hk); (try clear hi); (try clear ho0); obtain ⟨Ao51, co51, eo51⟩ := Kd.R_slice HO488.out; subst eo51) | ((with_reducible refine gate_callee (f := 21) rfl ?_); refine goesL_ (some 69) rfl rfl Try.func21 (by kernel_rfl) rfl #[.slice Ao31 t474.length co31, .slice Ao51 t486.length co51] rfl (by (try simp only [List.map_toArray, List.map_cons, List.map_nil]); first | done | rfl | (simp only [List.length_drop, List.length_take]; rfl)) ?_; (with_reducible refine (laws_eqIntS.calls kj16 _ _ t474 _ _ t486 false _ ?side1 ?side2 ?side3 ?side4 A40.out).mono ?_); (case side1 => repeat (first | exact (Kd.R_reads' HO_12.out).2.2 | (with_reducible refine Kd.C_alloc ?_ _) | (with_reducible refine Kd.C_drewN ?_ _) | (with_reducible refine Kd.C_drew ?_))); (case side2 => exact (Kd.R_reads' HO_12.out).2.1); (case side3 => repeat (first | exact (Kd.R_reads' HO488.out).2.2 | (with_reducible refine Kd.C_alloc ?_ _) | (with_reducible refine Kd.C_drewN ?_ _) | (with_reducible refine Kd.C_drew ?_))); (case side4 => exact (Kd.R_reads' HO488.out).2.1); rintro e w' ⟨rfl, ⟨nd, rfl⟩⟩; refine ⟨_, rfl, ?_⟩))
                go_ret
                exact ⟨by first | rfl | (simp [errW_none, errW_some] <;> rfl) | (simp [*, errW_none, errW_some] <;> rfl), by repeat (first | (with_reducible first | exact HB.out | apply below_alloc | apply pw_below_drewN | apply below_drew1 | refine below_set ?_ GE458.out) | exact HB.out)⟩
            · replace c38 := Bool.eq_false_iff.mpr c38
              subst c38
              have H1 : (some false) = some r := by rw [if_neg (show ¬ (false = true) by decide)] at H; exact H
              clear H
              have H := H1
              clear H1
              obtain rfl := Option.some.inj H
              go_wp2_with (first | ((with_reducible refine gate_callee (f := 13) rfl ?_); refine goesL_ (some 63) rfl rfl Try.func13 (by kernel_rfl) rfl #[.slice A0 l0.length c0] rfl (by (try simp only [List.map_toArray, List.map_cons, List.map_nil]); first | done | rfl | (simp only [List.length_drop, List.length_take]; rfl)) ?_; (with_reducible refine (laws_toItemS.calls kj16 _ _ l0 t482 _ ?side1 ?side2 A36.out).mono ?_); (case side1 => repeat (first | exact (Kd.C_below HR0.out HB.out) | (with_reducible refine Kd.C_alloc ?_ _) | (with_reducible refine Kd.C_drewN ?_ _) | (with_reducible refine Kd.C_drew ?_))); (case side2 => exact HC0.out); rintro e w52 ⟨v483, rfl, ho0, hb⟩; refine ⟨_, rfl, ?_⟩; have n0_ := Aside0.mk (Kd.R_elder' (by (with_reducible repeat (first | apply Kd.R_alloc | apply Kd.R_drewN | apply Kd.R_drew)); exact HO_11.out) (Kd.R_base ho0) hb); have n1_ := Aside0.mk (Kd.R_below (by (with_reducible repeat (first | apply Kd.R_alloc | apply Kd.R_drewN | apply Kd.R_drew)); exact HO_12.out) hb); have n2_ := Aside0.mk (Kd.R_lower (Kd.R_new' ho0 (Kd.R_lt (by (with_reducible repeat (first | apply Kd.R_alloc | apply Kd.R_drewN | apply Kd.R_drew)); exact HO_11.out))) (below_size (by repeat (first | (with_reducible first | exact HB.out | apply below_alloc | apply pw_below_drewN | apply below_drew1 | refine below_set ?_ GE458.out) | exact HB.out)))); have n3_ := Aside0.mk (blk_below (g := gb458) (o := .cells #[.int .i64 a1_0, .int .i64 a1_1] 24 (0, 0)) (by (with_reducible repeat (first | refine blk_drewN ?_ _ | refine blk_drew ?_ | refine blk_alloc ?_ _)); exact BK458.out) hb); have n4_ := Aside0.mk (below_step (by repeat (first | (with_reducible first | exact HB.out | apply below_alloc | apply pw_below_drewN | apply below_drew1 | refine below_set ?_ GE458.out) | exact HB.out)) hb); clear HO_11; clear HO_12; clear BK458; clear HB; have HO_11 := n0_; have HO_12 := n1_; have HO484 := n2_; have BK458 := n3_; have HB := n4_; clear n0_ n1_ n2_ n3_ n4_; (try clear hb); (try clear hb2); (try clear hk); (try clear hi); (try clear ho0); obtain ⟨Ao53, co53, eo53⟩ := Kd.R_slice HO484.out; subst eo53) | ((with_reducible refine gate_callee (f := 16) rfl ?_); refine goesL_ (some 64) rfl rfl Try.func16 (by kernel_rfl) rfl #[.slice Ao30 t471.length co30, .slice Ao53 t482.length co53] rfl (by (try simp only [List.map_toArray, List.map_cons, List.map_nil]); first | done | rfl | (simp only [List.length_drop, List.length_take]; rfl)) ?_; (with_reducible refine (laws_eqItemS.calls kj16 _ _ t471 _ _ t482 false _ ?side1 ?side2 ?side3 ?side4 A37.out).mono ?_); (case side1 => repeat (first | exact (Kd.R_reads' HO_11.out).2.2 | (with_reducible refine Kd.C_alloc ?_ _) | (with_reducible refine Kd.C_drewN ?_ _) | (with_reducible refine Kd.C_drew ?_))); (case side2 => exact (Kd.R_reads' HO_11.out).2.1); (case side3 => repeat (first | exact (Kd.R_reads' HO484.out).2.2 | (with_reducible refine Kd.C_alloc ?_ _) | (with_reducible refine Kd.C_drewN ?_ _) | (with_reducible refine Kd.C_drew ?_))); (case side4 => exact (Kd.R_reads' HO484.out).2.1); rintro e w54 ⟨rfl, hb⟩; refine ⟨_, rfl, ?_⟩; have n0_ := Aside0.mk (Kd.R_below (by (with_reducible repeat (first | apply Kd.R_alloc | apply Kd.R_drewN | apply Kd.R_drew)); exact HO_11.out) hb); have n1_ := Aside0.mk (Kd.R_below (by (with_reducible repeat (first | apply Kd.R_alloc | apply Kd.R_drewN | apply Kd.R_drew)); exact HO_12.out) hb); have n2_ := Aside0.mk (Kd.R_below (by (with_reducible repeat (first | apply Kd.R_alloc | apply Kd.R_drewN | apply Kd.R_drew)); exact HO484.out) hb); have n3_ := Aside0.mk (blk_below (g := gb458) (o := .cells #[.int .i64 a1_0, .int .i64 a1_1] 24 (0, 0)) (by (with_reducible repeat (first | refine blk_drewN ?_ _ | refine blk_drew ?_ | refine blk_alloc ?_ _)); exact BK458.out) hb); have n4_ := Aside0.mk (below_step (by repeat (first | (with_reducible first | exact HB.out | apply below_alloc | apply pw_below_drewN | apply below_drew1 | refine below_set ?_ GE458.out) | exact HB.out)) hb); clear HO_11; clear HO_12; clear HO484; clear BK458; clear HB; have HO_11 := n0_; have HO_12 := n1_; have HO484 := n2_; have BK458 := n3_; have HB := n4_; clear n0_ n1_ n2_ n3_ n4_; (try clear hb); (try clear hb2); (try clear hk); (try clear hi)))
              go_ret
              exact ⟨by first | rfl | (simp [errW_none, errW_some] <;> rfl) | (simp [*, errW_none, errW_some] <;> rfl), by repeat (first | (with_reducible first | exact HB.out | apply below_alloc | apply pw_below_drewN | apply below_drew1 | refine below_set ?_ GE458.out) | exact HB.out)⟩

end Go.Proofs.Ytkaihdpmjlhlaaa.Q

namespace Go.Proofs.Ytkaihdpmjlhlaaa.Q
open Go.RowKit Go.Proofs.YtkaihdpmjlhlaaaW.PrintWords Go.Proofs.YtkaihdpmjlhlaaaW.PrintLast Go.Proofs.YtkaihdpmjlhlaaaW.PrintMore
set_option linter.unusedVariables false
set_option linter.unusedSimpArgs false

theorem suAsked_eq (items : List Item) (a b : Int) (hn : items.length ≤ 10000000) (k : Nat) (hk : items.length < k) : spec_suAsked.f k items a b = impl_arePacked.f items [⟨a, b⟩] := by
  unfold spec_suAsked.f
  rw [suGood_eq items (by omega) k hk]
  unfold impl_AreItems.f impl_arePacked.f
  simp only [inItem, Option.bind_some, List.all_cons, List.all_nil, Bool.and_true]
  unfold okCase
  cases (decide (1 ≤ items.length) && decide (items.length ≤ 10) && items.all okItem) <;> cases (decide (0 ≤ a) && decide (a ≤ 200)) <;> cases (decide (0 ≤ b) && decide (b ≤ 200)) <;> simp
theorem packed_good {items : List Item} {a b : Int} (h : impl_arePacked.f items [⟨a, b⟩] = some true) : items.length ≤ 10 ∧ 1 ≤ items.length ∧ (∀ x ∈ items, okItem x = true) ∧ (0 ≤ a ∧ a ≤ 200) ∧ 0 ≤ b ∧ b ≤ 200 := by
  unfold impl_arePacked.f at h
  injection h with h
  simp only [List.all_cons, List.all_nil, Bool.and_true, Bool.and_eq_true, decide_eq_true_eq, okCase, List.all_eq_true] at h
  exact ⟨h.1.1.2, h.1.1.1, h.1.2, h.2.1, h.2.2⟩

theorem holds_eq (a b x y z : Int) : impl_Case_holds.f a b x y z = some (decide (x ≤ a) && decide (y ≤ b)) := by
  unfold impl_Case_holds.f
  by_cases h : x ≤ a
  · rw [if_pos h]; simp [h]
  · rw [if_neg h]; simp [h]
theorem suFits_eq (items : List Item) (a b : Int) (ch : List Int) (hw : Inside items ch) (hn : ch.length ≤ 100000000000000) (k : Nat) (hk : ch.length < k) :
    spec_suFits.f k items a b ch = some (decide ((tot items ch).1 ≤ a) && decide ((tot items ch).2.1 ≤ b)) := by
  unfold spec_suFits.f
  rw [suTotals_eq items ch hw hn k hk]
  simp only [Option.bind_some]
  by_cases h : (tot items ch).1 ≤ a
  · rw [if_pos h]; simp [h]
  · rw [if_neg h]; simp [h]

end Go.Proofs.Ytkaihdpmjlhlaaa.Q

namespace Go.Proofs.Ytkaihdpmjlhlaaa.Q
open Go.RowKit Go.Proofs.YtkaihdpmjlhlaaaW.PrintWords Go.Proofs.YtkaihdpmjlhlaaaW.PrintLast Go.Proofs.YtkaihdpmjlhlaaaW.PrintMore
set_option linter.unusedVariables false
set_option linter.unusedSimpArgs false

theorem l1Has_l0 (st : List Int) (x : Int) (hn : st.length ≤ 1000000000) : ∀ d k i, i + d = st.length → d < k → spec_l1Has.l0 k x st (st.length : Int) (i : Int) = some ((st.drop i).contains x) := by
  intro d
  induction d with
  | zero =>
    intro k i hi hk
    obtain ⟨k, rfl⟩ : ∃ q, k = q + 1 := ⟨k - 1, by omega⟩
    simp only [spec_l1Has.l0]; rw [if_neg (by omega), List.drop_of_length_le (by omega)]; rfl
  | succ d ih =>
    intro k i hi hk
    obtain ⟨k, rfl⟩ : ∃ q, k = q + 1 := ⟨k - 1, by omega⟩
    have hlt : i < st.length := by omega
    simp only [spec_l1Has.l0]
    rw [if_pos (by omega), if_pos (by omega), if_pos (by omega), rd_nat st i hlt, w64 (i := (i : Int) + 1) (by omega) (by omega), List.drop_eq_getElem_cons hlt, List.contains_cons]
    by_cases h : st[i] = x
    · rw [if_pos h, beq_iff_eq.mpr h.symm, Bool.true_or]
    · rw [if_neg h, beq_eq_false_iff_ne.mpr (fun e => h e.symm), Bool.false_or, show (i : Int) + 1 = ((i + 1 : Nat) : Int) by omega, ih k (i + 1) (by omega) (by omega)]
theorem l1Has_eq (st : List Int) (x : Int) (hn : st.length ≤ 1000000000) (k : Nat) (hk : st.length < k) : spec_l1Has.f k st x = some (st.contains x) := by
  unfold spec_l1Has.f
  have := l1Has_l0 st x hn st.length k 0 (by omega) hk
  simpa using this


end Go.Proofs.Ytkaihdpmjlhlaaa.Q

namespace Go.Proofs.Ytkaihdpmjlhlaaa.Q
open Go.RowKit Go.Proofs.YtkaihdpmjlhlaaaW.PrintWords Go.Proofs.YtkaihdpmjlhlaaaW.PrintLast Go.Proofs.YtkaihdpmjlhlaaaW.PrintMore
set_option linter.unusedVariables false
set_option linter.unusedSimpArgs false

/-- A number put into a list ahead of the first that is not less. -/
def putL : List Int → Int → List Int
  | [], n => [n]
  | x :: xs, n => if x < n then x :: putL xs n else if x = n then x :: xs else n :: x :: xs
theorem put_l0 (l : List Int) (n : Int) (hn : l.length ≤ 1000000) : ∀ d k i, i + d = l.length → d < k → spec_l1Put.l0 k l n (i : Int) = some (l.take i ++ putL (l.drop i) n) := by
  intro d
  induction d with
  | zero =>
    intro k i hi hk
    obtain ⟨k, rfl⟩ : ∃ m, k = m + 1 := ⟨k - 1, by omega⟩
    have e1 : l.take i = l := List.take_of_length_le (by omega)
    have e2 : l.drop i = [] := List.drop_of_length_le (by omega)
    simp only [spec_l1Put.l0, Option.bind_some, Int.toNat_natCast, List.nil_append, e1, e2, List.append_nil]
    rw [if_neg (by omega), if_pos (by omega), if_pos (by omega), if_pos (by simp; omega), if_pos (by omega), if_pos (by simp; omega)]
    rfl
  | succ d ih =>
    intro k i hi hk
    obtain ⟨k, rfl⟩ : ∃ m, k = m + 1 := ⟨k - 1, by omega⟩
    have hlt : i < l.length := by omega
    simp only [spec_l1Put.l0, Option.bind_some, Int.toNat_natCast, List.nil_append]
    rw [if_pos (by omega), if_pos (by omega), rd_nat l i hlt, w64 (i := (i : Int) + 1) (by omega) (by omega), List.drop_eq_getElem_cons hlt, putL]
    by_cases h1 : l[i] < n
    · rw [if_pos h1, if_pos h1]
      have := ih k (i + 1) (by omega) (by omega)
      rw [show ((i + 1 : Nat) : Int) = (i : Int) + 1 by omega, List.take_add_one, List.getElem?_eq_getElem hlt] at this
      rw [this]; simp only [Option.toList_some, List.append_assoc, List.singleton_append]
    · rw [if_neg h1, if_neg h1]
      by_cases h2 : l[i] = n
      · rw [if_pos h2, if_pos h2, ← List.drop_eq_getElem_cons hlt, List.take_append_drop]
      · rw [if_neg h2, if_neg h2, if_pos (by omega), if_pos (by simp; omega), if_pos (by simp; omega), if_pos (by simp; omega)]
        simp
theorem put_eq (l : List Int) (n : Int) (hn : l.length ≤ 1000000) (k : Nat) (hk : l.length < k) : spec_l1Put.f k l n = some (putL l n) := by
  unfold spec_l1Put.f
  have := put_l0 l n hn l.length k 0 (by omega) hk
  simpa using this
theorem putL_perm : ∀ (l : List Int) (n : Int), n ∉ l → (putL l n).Perm (l ++ [n])
  | [], n, _ => List.Perm.refl _
  | x :: xs, n, h => by
    have h1 : x ≠ n := fun e => h (e ▸ List.mem_cons_self)
    have h2 : n ∉ xs := fun e => h (List.mem_cons_of_mem _ e)
    rw [putL]
    split
    · exact (putL_perm xs n h2).cons x
    · exact (List.perm_append_singleton n (x :: xs)).symm
theorem putL_length (l : List Int) (n : Int) (h : n ∉ l) : (putL l n).length = l.length + 1 := by rw [(putL_perm l n h).length_eq]; simp
theorem wrap_comm (s a b : Int) : wrap64 (wrap64 (s + a) + b) = wrap64 (wrap64 (s + b) + a) := by unfold wrap64; omega
theorem tot_perm (items : List Item) {l1 l2 : List Int} (h : l1.Perm l2) : tot items l1 = tot items l2 := by
  unfold tot
  refine h.foldl_eq' (fun x _ y _ z => ?_) _
  unfold addTo
  simp only [Prod.mk.injEq]
  exact ⟨wrap_comm _ _ _, wrap_comm _ _ _, wrap_comm _ _ _⟩
theorem inside_perm {items : List Item} {l1 l2 : List Int} (h : l1.Perm l2) (hi : Inside items l2) : Inside items l1 := fun x hx => hi x (h.mem_iff.1 hx)
theorem l1Own_eq (l : List Int) (h : l.length < 1000000) : spec_l1Own.f l = some l := by
  unfold spec_l1Own.f
  simp only [Option.bind_some, List.length_nil, List.nil_append]
  rw [if_pos (by omega)]
theorem ex_l1 (items : List Item) (a b : Int) (ch : List Int) (hin : Inside items ch) (hl : ch.length ≤ 1000) (hn : items.length ≤ 1000) (ik : Nat) (hik : ik < ch.length) (x : Int) (hx : x = ch.getD ik 0) : ∀ d k o (s : Ex3), o + d = items.length → d + 3000 ≤ k →
    ∃ k', k' + d + 1 = k ∧ spec_BestExchange.l1 k items ch s.1 s.2.1 s.2.2 x (ch.take ik ++ ch.drop (ik + 1)) ch (ch.length : Int) (ik : Int) (items.length : Int) (o : Int) a b =
      spec_BestExchange.l0 k' items ch (exIn items a b ch ik d o s).1 (exIn items a b ch ik d o s).2.1 (exIn items a b ch ik d o s).2.2 ch (ch.length : Int) ((ik : Int) + 1) a b := by
  intro d
  induction d with
  | zero =>
    intro k o s ho hk
    obtain ⟨k, rfl⟩ : ∃ m, k = m + 1 := ⟨k - 1, by omega⟩
    refine ⟨k, by omega, ?_⟩
    simp only [spec_BestExchange.l1]
    rw [if_neg (by omega), w64 (i := (ik : Int) + 1) (by omega) (by omega)]
    rfl
  | succ d ih =>
    intro k o s ho hk
    obtain ⟨k, rfl⟩ : ∃ m, k = m + 1 := ⟨k - 1, by omega⟩
    simp only [spec_BestExchange.l1]
    rw [if_pos (by omega), l1Has_eq ch (o : Int) (by omega) k (by omega), w64 (i := (o : Int) + 1) (by omega) (by omega), exIn_step]
    simp only [Option.bind_some]
    have hrl : (ch.take ik ++ ch.drop (ik + 1)).length < 1000000 := by simp; omega
    cases hc : ch.contains (o : Int) with
    | true =>
      rw [if_pos rfl]
      have e : exStep items a b ch ik s o = s := by unfold exStep; rw [if_pos hc]
      rw [e]
      obtain ⟨k', h1, h2⟩ := ih k (o + 1) s (by omega) (by omega)
      rw [show ((o + 1 : Nat) : Int) = (o : Int) + 1 by omega] at h2
      exact ⟨k', by omega, h2⟩
    | false =>
      have hno : (o : Int) ∉ ch := fun hm => by rw [List.contains_eq_mem] at hc; simp [hm] at hc
      have hnr : (o : Int) ∉ ch.take ik ++ ch.drop (ik + 1) := fun hm => by
        rcases List.mem_append.1 hm with hm | hm
        · exact hno (List.mem_of_mem_take hm)
        · exact hno (List.mem_of_mem_drop hm)
      have hp : (putL (ch.take ik ++ ch.drop (ik + 1)) (o : Int)).Perm (exNext ch ik o) := putL_perm _ _ hnr
      have hpi := inside_perm hp (exNext_inside hin ik o (by omega))
      have hpl : (putL (ch.take ik ++ ch.drop (ik + 1)) (o : Int)).length = ch.length := by rw [hp.length_eq]; exact exNext_length ch ik o hik
      have htp := tot_perm items hp
      rw [if_neg (by decide), l1Own_eq _ hrl]
      simp only [Option.bind_some]
      rw [put_eq _ _ (by omega) k (by rw [List.length_append, List.length_take, List.length_drop]; omega)]
      simp only [Option.bind_some]
      rw [suTotals_eq items _ hpi (by omega) k (by omega)]
      simp only [Option.bind_some]
      rw [htp, suFits_eq items a b _ hpi (by omega) k (by omega), htp]
      simp only [Option.bind_some, gt_iff_lt]
      have hstep : exStep items a b ch ik s o = if holdsC a b (tot items (exNext ch ik o)) = true ∧ s.1 < (tot items (exNext ch ik o)).2.2 then ((tot items (exNext ch ik o)).2.2, ch.getD ik 0, (o : Int)) else s := by unfold exStep; rw [if_neg (by rw [hc]; decide)]
      by_cases h1 : s.1 < (tot items (exNext ch ik o)).2.2
      · rw [if_pos h1]
        cases h2 : (decide ((tot items (exNext ch ik o)).1 ≤ a) && decide ((tot items (exNext ch ik o)).2.1 ≤ b)) with
        | true =>
          rw [if_pos rfl, hstep, if_pos ⟨h2, h1⟩, ← hx]
          obtain ⟨k', h3, h4⟩ := ih k (o + 1) ((tot items (exNext ch ik o)).2.2, x, (o : Int)) (by omega) (by omega)
          rw [show ((o + 1 : Nat) : Int) = (o : Int) + 1 by omega] at h4
          exact ⟨k', by omega, h4⟩
        | false =>
          rw [if_neg (by decide), hstep, if_neg (fun h => by unfold holdsC at h; rw [h2] at h; cases h.1)]
          obtain ⟨k', h3, h4⟩ := ih k (o + 1) s (by omega) (by omega)
          rw [show ((o + 1 : Nat) : Int) = (o : Int) + 1 by omega] at h4
          exact ⟨k', by omega, h4⟩
      · rw [if_neg h1, hstep, if_neg (fun h => h1 h.2)]
        obtain ⟨k', h3, h4⟩ := ih k (o + 1) s (by omega) (by omega)
        rw [show ((o + 1 : Nat) : Int) = (o : Int) + 1 by omega] at h4
        exact ⟨k', by omega, h4⟩
theorem ex_l0 (items : List Item) (a b : Int) (ch : List Int) (hin : Inside items ch) (hl : ch.length ≤ 1000) (hn : items.length ≤ 1000) : ∀ d k i (s : Ex3), i + d = ch.length → 5000 * d + 5000 ≤ k →
    spec_BestExchange.l0 k items ch s.1 s.2.1 s.2.2 ch (ch.length : Int) (i : Int) a b = (if (exOut items a b ch d i s).2.1 < 0 then some (0, 0, false) else some ((exOut items a b ch d i s).2.1, (exOut items a b ch d i s).2.2, true)) := by
  intro d
  induction d with
  | zero =>
    intro k i s hi hk
    obtain ⟨k, rfl⟩ : ∃ m, k = m + 1 := ⟨k - 1, by omega⟩
    simp only [spec_BestExchange.l0]
    rw [if_neg (by omega)]
    rfl
  | succ d ih =>
    intro k i s hi hk
    obtain ⟨k, rfl⟩ : ∃ m, k = m + 1 := ⟨k - 1, by omega⟩
    have hlt : i < ch.length := by omega
    simp only [spec_BestExchange.l0]
    rw [if_pos (by omega), if_pos (by omega), if_pos (by omega), if_pos (by omega), l1Own_eq _ (by rw [List.length_take]; omega), Option.bind_some, w64 (i := (i : Int) + 1) (by omega) (by omega), if_pos (by omega), if_pos (by omega), if_pos (by rw [List.length_take, List.length_drop]; omega), rd_nat ch i hlt, show ((i : Int) + 1).toNat = i + 1 by omega, Int.toNat_natCast, exOut_step]
    obtain ⟨k', h1, h2⟩ := ex_l1 items a b ch hin hl hn i hlt ch[i] (by simp [List.getD_eq_getElem?_getD, hlt]) items.length k 0 s (by omega) (by omega)
    simp only [Int.natCast_zero] at h2
    rw [h2]
    have e : 5000 * d + 5000 ≤ k' := by clear h2; omega
    have := ih k' (i + 1) (exIn items a b ch i items.length 0 s) (by omega) e
    rw [show ((i + 1 : Nat) : Int) = (i : Int) + 1 by omega] at this
    exact this
theorem asked_ten (items : List Item) (a b : Int) (hm : items.length ≤ 10000000) : ∃ t : Bool, impl_arePacked.f items [⟨a, b⟩] = some t ∧ (∀ k, items.length < k → spec_suAsked.f k items a b = some t) ∧ (t = true → items.length ≤ 10) := by
  obtain ⟨t, ht⟩ : ∃ t, impl_arePacked.f items [⟨a, b⟩] = some t := ⟨_, rfl⟩
  refine ⟨t, ht, fun k hk => (suAsked_eq items a b hm k hk).trans ht, fun h => ?_⟩
  subst h
  exact (packed_good ht).1
theorem bestExchange_both (items : List Item) (a b : Int) (ch : List Int) (hm : items.length ≤ 10000000) (hc : ch.length ≤ 10000000) : ∃ r : Int × Int × Bool, Ev (fun k => spec_BestExchange.f k items a b ch) r ∧ Ev (fun _ => impl_BestExchange.f items a b ch) r := by
  obtain ⟨t, h1, h2, h3⟩ := asked_ten items a b hm
  obtain ⟨q, hi, hs, hb⟩ := chosen_both items ch (by omega) (by omega)
  unfold spec_BestExchange.f impl_BestExchange.f
  cases t with
  | false => exact ⟨(0, 0, false), Ev_from items.length fun k hk => by
      obtain ⟨k, rfl⟩ : ∃ m, k = m + 1 := ⟨k - 1, by omega⟩
      rw [h2 (k + 1) hk]; simp only [Option.bind_some, spec_BestExchange.j0]; rfl, Ev_from 0 fun k _ => by rw [h1]; rfl⟩
  | true =>
    have hn := h3 rfl
    rw [h1]
    simp only [Option.bind_some, if_true]
    unfold impl_isChoice.f spec_suIs.f
    rw [hi (ch.length + 1) (by omega), if_pos (by omega)]
    cases q with
    | false =>
      refine ⟨(0, 0, false), Ev_from 100000000 fun k hk => ?_, Ev_from 0 fun k _ => rfl⟩
      obtain ⟨k, rfl⟩ : ∃ m, k = m + 1 := ⟨k - 1, by omega⟩
      rw [h2 (k + 1) (by omega)]; simp only [Option.bind_some, if_true]; rw [hs (k + 1) (by omega)]; simp only [Option.bind_some, spec_BestExchange.j0]; rfl
    | true =>
      obtain ⟨hinc, hin⟩ := hb.1 rfl
      simp only [Option.bind_some, if_true]
      rw [totals_eq items ch hin (by omega) (ch.length + 1) (by omega)]
      simp only [Option.bind_some]
      rw [holds_eq]
      simp only [Option.bind_some]
      have hl : ch.length ≤ 1000 := by
        have hnd : ch.Nodup := by
          have hlt : ∀ d i (h1 : i < ch.length) (h2 : i + d + 1 < ch.length), ch[i] < ch[i + d + 1] := by
            intro d
            induction d with
            | zero => intro i h1 h2; exact hinc (i + 1) h2 (by omega)
            | succ d ih =>
              intro i h1 h2
              have e1 := ih i h1 (by omega)
              have e2 := hinc (i + d + 1 + 1) (by omega) (by omega)
              simp only [Nat.add_sub_cancel] at e2
              have e3 : ch[i + (d + 1) + 1] = ch[i + d + 1 + 1] := by congr 1
              rw [e3]
              omega
          rw [List.Nodup, List.pairwise_iff_getElem]
          intro i j hi' hj hij e
          have := hlt (j - i - 1) i hi' (by omega)
          have e3 : ch[i + (j - i - 1) + 1] = ch[j] := by congr 1; omega
          omega
        have key : ∀ (n : Nat) (st : List Int), st.Nodup → (∀ x ∈ st, 0 ≤ x ∧ x < (n : Int)) → st.length ≤ n := by
          intro n
          induction n with
          | zero =>
            intro st _ h
            cases st with
            | nil => simp
            | cons x xs => have := h x List.mem_cons_self; omega
          | succ n ih =>
            intro st hd h
            have ih := ih (st.erase (n : Int)) (hd.erase _) (fun x hx => by
              have h1 := (hd.mem_erase_iff).1 hx
              have h2 := h x h1.2
              have h3 := h1.1
              omega)
            rw [List.length_erase] at ih
            split at ih <;> omega
        have := key items.length ch hnd hin
        omega
      have hmain := fun k (hk : 20000000 ≤ k) => ex_l0 items a b ch hin hl (by omega) ch.length k 0 ((tot items ch).2.2, -1, 0) (by omega) (by omega)
      simp only [Int.natCast_zero] at hmain
      cases hf : (decide ((tot items ch).1 ≤ a) && decide ((tot items ch).2.1 ≤ b)) with
      | false =>
        refine ⟨(0, 0, false), Ev_from 100000000 fun k hk => ?_, Ev_from 0 fun k _ => rfl⟩
        obtain ⟨k, rfl⟩ : ∃ m, k = m + 1 := ⟨k - 1, by omega⟩
        rw [h2 (k + 1) (by omega)]; simp only [Option.bind_some, if_true]; rw [hs (k + 1) (by omega)]; simp only [Option.bind_some, if_true]; rw [suFits_eq items a b ch hin (by omega) (k + 1) (by omega), hf]; simp only [Option.bind_some, spec_BestExchange.j0]; rfl
      | true =>
        simp only [if_true]
        refine ⟨if (exOut items a b ch ch.length 0 ((tot items ch).2.2, -1, 0)).2.1 < 0 then (0, 0, false) else ((exOut items a b ch ch.length 0 ((tot items ch).2.2, -1, 0)).2.1, (exOut items a b ch ch.length 0 ((tot items ch).2.2, -1, 0)).2.2, true), Ev_from 100000000 fun k hk => ?_, Ev_from 0 fun k _ => by split <;> rfl⟩
        obtain ⟨k, rfl⟩ : ∃ m, k = m + 1 := ⟨k - 1, by omega⟩
        rw [h2 (k + 1) (by omega)]; simp only [Option.bind_some, if_true]; rw [hs (k + 1) (by omega)]; simp only [Option.bind_some, if_true]; rw [suFits_eq items a b ch hin (by omega) (k + 1) (by omega), hf]; simp only [Option.bind_some, spec_BestExchange.j0, Bool.not_true, Bool.false_eq_true, if_false]
        rw [suTotals_eq items ch hin (by omega) k (by omega)]
        simp only [Option.bind_some]
        rw [hmain k (by omega)]
        split <;> rfl
end Go.Proofs.Ytkaihdpmjlhlaaa.Q

namespace Go.Proofs.Ytkaihdpmjlhlaaa.Q
open Go.RowKit Go.Proofs.YtkaihdpmjlhlaaaW.PrintWords Go.Proofs.YtkaihdpmjlhlaaaW.PrintLast Go.Proofs.YtkaihdpmjlhlaaaW.PrintMore
attribute [local go_sem] max2_int min2_int max_two min_two max_three min_three max_four min_four   -- for this text's walks alone
set_option linter.unusedVariables false
set_option linter.unusedSimpArgs false

/-! ### laws_markItemS: function 22 -/
def laws_markItemS.l0 : Nat → List (S49) → Int → Int → Option (Int × (List (S49)))
  | 0, _, _, _ => none
  | k + 1, x0, x1, x5 => if x5 < (x0.length : Int) then (if 0 ≤ x5 then ((some (x0.set (x5 : Int).toNat (⟨x1, (rd_T49 x0 x5).f1, (rd_T49 x0 x5).f2⟩ : S49) : List (S49))).bind fun y252 => ((some (y252.set (x5 : Int).toNat (⟨(rd_T49 y252 x5).f0, wrap64 (x1 + 1), (rd_T49 y252 x5).f2⟩ : S49) : List (S49))).bind fun y253 => (laws_markItemS.l0 k (y253.set (x5 : Int).toNat (⟨(rd_T49 y253 x5).f0, (rd_T49 y253 x5).f1, wrap64 ((wrap64 (x1 + 1)) + 1)⟩ : S49)) (wrap64 ((wrap64 ((wrap64 (x1 + 1)) + 1)) + 1)) (wrap64 (x5 + 1))))) else (none)) else (some (x1, x0))
def laws_markItemS.f (k : Nat) (l0 : List (S49)) (a1 : Int) : Option (Int × (List (S49))) := laws_markItemS.l0 k l0 a1 0
theorem laws_markItemS.mono_l : ∀ k, (∀ y0 y1 y2, LeO (laws_markItemS.l0 k y0 y1 y2) (laws_markItemS.l0 (k + 1) y0 y1 y2))
  | 0 => fun _ _ _ r h => by simp [laws_markItemS.l0] at h
  | k + 1 => by
    have ih0 := laws_markItemS.mono_l k
    · intro y0 y1 y2
      unfold laws_markItemS.l0
      repeat' first
      | (with_reducible exact ih0 _ _ _)
      | (with_reducible exact LeO.refl _)
      | (with_reducible exact LeO.none _)
      | (with_reducible refine LeO.ite ?_ ?_)
      | (with_reducible refine LeO.bind ?_ (fun _ => ?_))
      | exact ih0 _ _ _
      | exact LeO.none _
      | refine LeO.ite ?_ ?_
      | refine LeO.bind ?_ (fun _ => ?_)
theorem laws_markItemS.mono : ∀ a0 a1 k, LeO (laws_markItemS.f k a0 a1) (laws_markItemS.f (k + 1) a0 a1) := by
  intro a0 a1 k
  have ih0 := laws_markItemS.mono_l k
  unfold laws_markItemS.f
  repeat' first
      | (with_reducible exact ih0 _ _ _)
      | (with_reducible exact LeO.refl _)
      | (with_reducible exact LeO.none _)
      | (with_reducible refine LeO.ite ?_ ?_)
      | (with_reducible refine LeO.bind ?_ (fun _ => ?_))
      | exact ih0 _ _ _
      | exact LeO.none _
      | refine LeO.ite ?_ ?_
      | refine LeO.bind ?_ (fun _ => ?_)
set_option maxHeartbeats 8000000 in
set_option maxRecDepth 100000 in
theorem laws_markItemS.calls (k : Nat) (P0_ : Nat → Prop) (u9000_ : Value) (l0 : List (S49)) (a1 : Int) (r1 : Int) (r2 : List (S49)) (w0 w : World) (hB : Below w0.heap.size w0 w) (ho0 : Kd.R k49 49 w w0.heap.size P0_ u9000_ l0) (h : laws_markItemS.f k l0 a1 = some (r1, r2)) :
    Calls Try.prog 22 #[u9000_, .int .i64 a1] w fun e w' => e = .returned (.int .i64 r1) ∧ Kd.R k49 49 w' w0.heap.size (fun k_ => (P0_ k_ ∨ w.heap.size ≤ k_)) u9000_ r2 ∧ Below w0.heap.size w0 w' ∧ Kept w w' (fun k_ => P0_ k_) := by
  have HO0 := Aside0.mk (show Kd.R k49 49 w w0.heap.size (fun k_ => (P0_ k_ ∨ w.heap.size ≤ k_)) u9000_ l0 from Kd.R_mono ho0 (fun k_ hk => (.inl hk)))
  have HK := Aside0.mk (Kept.refl w (fun k_ => P0_ k_))
  have HW0 := Aside0.mk hB.size
  have HB := Aside0.mk hB
  clear hB
  have H : (laws_markItemS.l0 k l0 a1 0) = some (r1, r2) := h
  clear h
  have H' := Aside0.mk H
  clear H
  go_enter Try.func22, Try.ntmps22
  go_wp2
  go_loopg [1, 5] k (fun kq v1 v5 w' => ∃ (x0_1 : List (S49)) (x1_1 : Int) (x5_1 : Int), v1 = .int .i64 x1_1 ∧ v5 = .int .i64 x5_1 ∧ Aside0 (laws_markItemS.l0 kq x0_1 x1_1 x5_1 = some (r1, r2)) ∧ Aside0 (kq ≤ k) ∧ Aside0 (Kd.R k49 49 w' w0.heap.size (fun k_ => (P0_ k_ ∨ w.heap.size ≤ k_)) u9000_ x0_1) ∧ Aside0 (Kept w w' (fun k_ => P0_ k_)) ∧ Aside0 (Below w0.heap.size w0 w'))
  case atStart => exact ⟨(l0), (a1), (0), (by first | rfl | (simp; done) | (simp [*]; done)), (by first | rfl | (simp; done) | (simp [*]; done)), H', ⟨Nat.le_refl _⟩, ⟨by (with_reducible repeat (first | apply Kd.R_alloc | apply Kd.R_drewN | apply Kd.R_drew)); exact HO0.out⟩, ⟨by repeat (first | (with_reducible first | exact HK.out | apply Kept.alloc | apply Kept.drewN | apply Kept.drew) | exact HK.out)⟩, ⟨by repeat (first | (with_reducible first | exact HB.out | apply below_alloc | apply pw_below_drewN | apply below_drew1) | exact HB.out)⟩⟩
  case round =>
    clear H'
    try clear c2
    try clear p2
    obtain ⟨x0_1, x1_1, x5_1, rfl, rfl, HA, HK1, HO_0, HK, HB⟩ := hrel
    cases gk with
    | zero => exact absurd HA.out (by simp [laws_markItemS.l0])
    | succ k1 =>
      have H := HA.out
      clear HA
      simp only [laws_markItemS.l0] at H
      by_cases c3 : x5_1 < (x0_1.length : Int)
      · rw [if_pos c3] at H
        have c3b0 : decide (x5_1 < (x0_1.length : Int)) = true := decide_eq_true c3
        clear c3
        by_cases c4 : 0 ≤ x5_1
        · rw [if_pos c4] at H
          have c4b0 : decide (0 ≤ x5_1) = true := decide_eq_true c4
          clear c4
          obtain ⟨y252, hy252⟩ : ∃ y_ : List (S49), y_ = (x0_1.set (x5_1 : Int).toNat (⟨x1_1, (rd_T49 x0_1 x5_1).f1, (rd_T49 x0_1 x5_1).f2⟩ : S49)) := ⟨_, rfl⟩
          replace H : ((some (y252.set (x5_1 : Int).toNat (⟨(rd_T49 y252 x5_1).f0, wrap64 (x1_1 + 1), (rd_T49 y252 x5_1).f2⟩ : S49) : List (S49))).bind fun y253 => (laws_markItemS.l0 k1 (y253.set (x5_1 : Int).toNat (⟨(rd_T49 y253 x5_1).f0, (rd_T49 y253 x5_1).f1, wrap64 ((wrap64 (x1_1 + 1)) + 1)⟩ : S49)) (wrap64 ((wrap64 ((wrap64 (x1_1 + 1)) + 1)) + 1)) (wrap64 (x5_1 + 1)))) = some (r1, r2) := by first | (rw [hy252]; with_reducible exact H) | (have H2_ := (Option.bind_some _ _).symm.trans H; rw [hy252]; with_reducible exact H2_) | (have H2_ := (Option.bind_some _ _).symm.trans H; with_reducible exact H2_) | with_reducible exact H | (rw [hy252]; exact H) | exact H
          have Ny252 := Aside0.mk hy252
          clear hy252
          obtain ⟨y253, hy253⟩ : ∃ y_ : List (S49), y_ = (y252.set (x5_1 : Int).toNat (⟨(rd_T49 y252 x5_1).f0, wrap64 (x1_1 + 1), (rd_T49 y252 x5_1).f2⟩ : S49)) := ⟨_, rfl⟩
          replace H : (laws_markItemS.l0 k1 (y253.set (x5_1 : Int).toNat (⟨(rd_T49 y253 x5_1).f0, (rd_T49 y253 x5_1).f1, wrap64 ((wrap64 (x1_1 + 1)) + 1)⟩ : S49)) (wrap64 ((wrap64 ((wrap64 (x1_1 + 1)) + 1)) + 1)) (wrap64 (x5_1 + 1))) = some (r1, r2) := by first | (rw [hy253]; with_reducible exact H) | (have H2_ := (Option.bind_some _ _).symm.trans H; rw [hy253]; with_reducible exact H2_) | (have H2_ := (Option.bind_some _ _).symm.trans H; with_reducible exact H2_) | with_reducible exact H | (rw [hy253]; exact H) | exact H
          have Ny253 := Aside0.mk hy253
          clear hy253
          obtain ⟨y254, hy254⟩ : ∃ y_ : List (S49), y_ = (y253.set (x5_1 : Int).toNat (⟨(rd_T49 y253 x5_1).f0, (rd_T49 y253 x5_1).f1, wrap64 ((wrap64 (x1_1 + 1)) + 1)⟩ : S49)) := ⟨_, rfl⟩
          replace H : (laws_markItemS.l0 k1 y254 (wrap64 ((wrap64 ((wrap64 (x1_1 + 1)) + 1)) + 1)) (wrap64 (x5_1 + 1))) = some (r1, r2) := by first | (rw [hy254]; with_reducible exact H) | (have H2_ := (Option.bind_some _ _).symm.trans H; rw [hy254]; with_reducible exact H2_) | (have H2_ := (Option.bind_some _ _).symm.trans H; with_reducible exact H2_) | with_reducible exact H | (rw [hy254]; exact H) | exact H
          have Ny254 := Aside0.mk hy254
          clear hy254
          have H' := Aside0.mk H
          clear H
          obtain ⟨Ao8, co8, eo8⟩ := Kd.R_slice HO_0.out
          subst eo8
          have p5 : 0 ≤ (x5_1 : Int) := of_decide_eq_true (by first | (with_reducible assumption) | assumption)
          have q5 : (x5_1 : Int) < ((x0_1.length : Int) : Int) := of_decide_eq_true (by first | (with_reducible assumption) | assumption)
          obtain ⟨go5, co5, eo5, gb5, gl5, cl5, HG5⟩ := Kd.R_form HO_0.out (by omega)
          (first | cases eo5 | (injection eo5 with ea_ en_ ec_; (first | subst ea_ | (injection ea_ with ea_; subst ea_)); subst ec_; clear en_))
          have GB5 := Aside0.mk gb5
          have GG5 := Aside0.mk HG5
          clear gb5 gl5 HG5
          have HMgo5 := Aside0.mk (show (P0_ go5 ∨ w.heap.size ≤ go5) from (HO_0.out.1 _ rfl))
          obtain ⟨ce5, hcl5, hM5, hcc5, hfr5⟩ := Kd.R_elem HO_0.out z49 (x5_1 : Int) p5 q5
          obtain rfl := k49_openM hM5
          have hx5_0 : wr.cell? ⟨go5, (x5_1 : Int).toNat * 3, none⟩ = some (.int .i64 ((rd_T49 x0_1 x5_1).f0)) := hcc5 0 _ rfl
          have hx5_1 : wr.cell? ⟨go5, (x5_1 : Int).toNat * 3 + 1, none⟩ = some (.int .i64 ((rd_T49 x0_1 x5_1).f1)) := hcc5 1 _ rfl
          have hx5_2 : wr.cell? ⟨go5, (x5_1 : Int).toNat * 3 + 2, none⟩ = some (.int .i64 ((rd_T49 x0_1 x5_1).f2)) := hcc5 2 _ rfl
          have hf5_0 : wr.frozen? ⟨go5, (x5_1 : Int).toNat * 3, none⟩ = false := hfr5 0
          have hf5_1 : wr.frozen? ⟨go5, (x5_1 : Int).toNat * 3 + 1, none⟩ = false := hfr5 1
          have hf5_2 : wr.frozen? ⟨go5, (x5_1 : Int).toNat * 3 + 2, none⟩ = false := hfr5 2
          clear hcl5 hcc5 hfr5 hM5
          replace p5 := eq_true p5
          replace q5 := eq_true q5
          have HX9 := Aside0.mk (show Kd.R k49 49 wr w0.heap.size (fun k_ => (P0_ k_ ∨ w.heap.size ≤ k_)) (.slice (some ⟨go5, 0, none⟩) x0_1.length co8) x0_1 from (by (with_reducible repeat (first | apply Kd.R_alloc | apply Kd.R_drewN | apply Kd.R_drew)); exact HO_0.out))
          obtain ⟨ce9, hcl9, hM9, hcc9, hfr9⟩ := Kd.R_elem HX9.out z49 (x5_1 : Int) (of_decide_eq_true (by first | (with_reducible assumption) | assumption)) (by have h_ : (x5_1 : Int) < ((x0_1.length : Int) : Int) := of_decide_eq_true (by first | (with_reducible assumption) | assumption); first | exact h_ | (have e_ := (Kd.R_reads' HO_0.out).1; omega) | simpa using h_)
          obtain rfl := k49_openM hM9
          have HP9 := Kd.R_seg HX9.out (x5_1 : Int) (of_decide_eq_true (by first | (with_reducible assumption) | assumption)) (by have h_ : (x5_1 : Int) < ((x0_1.length : Int) : Int) := of_decide_eq_true (by first | (with_reducible assumption) | assumption); first | exact h_ | (have e_ := (Kd.R_reads' HO_0.out).1; omega) | simpa using h_) (seg := [.int .i64 x1_1]) (j := 0) hcl9 hcc9 (show 1 ≤ 3 from by decide) (x' := (⟨x1_1, (rd_T49 x0_1 x5_1).f1, (rd_T49 x0_1 x5_1).f2⟩ : S49)) (k49_mkM _ _ _ (⟨x1_1, (rd_T49 x0_1 x5_1).f1, (rd_T49 x0_1 x5_1).f2⟩ : S49) ) (fun _ hk => hk)
          have hx9_0 := hcc9 0 _ rfl
          (try simp only [show (k49).sz = 3 from rfl, Nat.mul_one, Nat.add_zero] at hx9_0)
          have hf9_0 := hfr9 0
          (try simp only [show (k49).sz = 3 from rfl, Nat.mul_one, Nat.add_zero] at hf9_0)
          clear hcl9 hcc9 hfr9 hM9
          go_wp2_with (first | ((with_reducible refine gate_store (t := 3) (p := 16) rfl ?_); refine store_event (t := 3) (p := 16) (v := ?vo_w10) (w1 := (wr.setCell ⟨go5, (x5_1 : Int).toNat * 3, none⟩ (.int .i64 x1_1))) ?hg ?ho ?hn ?hr ?_; (case ho => rfl); (case hg => rfl); (case hn => rfl); (case hr => first | (go_simp; done) | (go_simp; rfl)); intro w10 hw; have hg : wr.grownBy w10 (some go5) := (by rw [hw]; exact HP9.2); have hp_ : Kd.R k49 49 w10 w0.heap.size (fun k_ => (P0_ k_ ∨ w.heap.size ≤ k_)) (.slice (some ⟨go5, 0, none⟩) x0_1.length co8) y252 := (by rw [hw, Ny252.out]; exact HP9.1); clear HP9; have n0_ := Aside0.mk (hp_); have n1_ := Aside0.mk ((by rw [hw]; exact below_set (HB.out) GB5.out : Below w0.heap.size w0 w10)); have n2_ := Aside0.mk (Kept.of_grown (S := (fun k_ => P0_ k_)) hg (by repeat (first | (with_reducible first | exact HK.out | apply Kept.alloc | apply Kept.drewN | apply Kept.drew) | exact HK.out)) (fun k_ e_ => (HO_0.out.1 k_ e_))); clear HO_0; clear HB; clear HK; have HO_0 := n0_; have HB := n1_; have HK := n2_; clear n0_ n1_ n2_; clear hg hw hp_; have p6 : 0 ≤ (x5_1 : Int) := of_decide_eq_true (by first | (with_reducible assumption) | assumption); have q6 : (x5_1 : Int) < ((x0_1.length : Int) : Int) := of_decide_eq_true (by first | (with_reducible assumption) | assumption); obtain ⟨ce6, hcl6, hM6, hcc6, hfr6⟩ := Kd.R_elem HO_0.out z49 (x5_1 : Int) p6 q6; obtain rfl := k49_openM hM6; have hx6_0 : w10.cell? ⟨go5, (x5_1 : Int).toNat * 3, none⟩ = some (.int .i64 ((rd_T49 y252 x5_1).f0)) := hcc6 0 _ rfl; have hx6_1 : w10.cell? ⟨go5, (x5_1 : Int).toNat * 3 + 1, none⟩ = some (.int .i64 ((rd_T49 y252 x5_1).f1)) := hcc6 1 _ rfl; have hx6_2 : w10.cell? ⟨go5, (x5_1 : Int).toNat * 3 + 2, none⟩ = some (.int .i64 ((rd_T49 y252 x5_1).f2)) := hcc6 2 _ rfl; have hf6_0 : w10.frozen? ⟨go5, (x5_1 : Int).toNat * 3, none⟩ = false := hfr6 0; have hf6_1 : w10.frozen? ⟨go5, (x5_1 : Int).toNat * 3 + 1, none⟩ = false := hfr6 1; have hf6_2 : w10.frozen? ⟨go5, (x5_1 : Int).toNat * 3 + 2, none⟩ = false := hfr6 2; clear hcl6 hcc6 hfr6 hM6; replace p6 := eq_true p6; replace q6 := eq_true q6; have HX11 := Aside0.mk (show Kd.R k49 49 w10 w0.heap.size (fun k_ => (P0_ k_ ∨ w.heap.size ≤ k_)) (.slice (some ⟨go5, 0, none⟩) x0_1.length co8) y252 from (by (with_reducible repeat (first | apply Kd.R_alloc | apply Kd.R_drewN | apply Kd.R_drew)); exact HO_0.out)); obtain ⟨ce11, hcl11, hM11, hcc11, hfr11⟩ := Kd.R_elem HX11.out z49 (x5_1 : Int) (of_decide_eq_true (by first | (with_reducible assumption) | assumption)) (by have h_ : (x5_1 : Int) < ((x0_1.length : Int) : Int) := of_decide_eq_true (by first | (with_reducible assumption) | assumption); first | exact h_ | (have e_ := (Kd.R_reads' HO_0.out).1; omega) | simpa using h_); obtain rfl := k49_openM hM11; have HP11 := Kd.R_seg HX11.out (x5_1 : Int) (of_decide_eq_true (by first | (with_reducible assumption) | assumption)) (by have h_ : (x5_1 : Int) < ((x0_1.length : Int) : Int) := of_decide_eq_true (by first | (with_reducible assumption) | assumption); first | exact h_ | (have e_ := (Kd.R_reads' HO_0.out).1; omega) | simpa using h_) (seg := [.int .i64 (wrap64 (x1_1 + 1))]) (j := 1) hcl11 hcc11 (show 2 ≤ 3 from by decide) (x' := (⟨(rd_T49 y252 x5_1).f0, wrap64 (x1_1 + 1), (rd_T49 y252 x5_1).f2⟩ : S49)) (k49_mkM _ _ _ (⟨(rd_T49 y252 x5_1).f0, wrap64 (x1_1 + 1), (rd_T49 y252 x5_1).f2⟩ : S49) ) (fun _ hk => hk); have hx11_1 := hcc11 1 _ rfl; (try simp only [show (k49).sz = 3 from rfl, Nat.mul_one, Nat.add_zero] at hx11_1); have hf11_1 := hfr11 1; (try simp only [show (k49).sz = 3 from rfl, Nat.mul_one, Nat.add_zero] at hf11_1); clear hcl11 hcc11 hfr11 hM11) | ((with_reducible refine gate_store (t := 3) (p := 23) rfl ?_); refine store_event (t := 3) (p := 23) (v := ?vo_w12) (w1 := (w10.setCell ⟨go5, (x5_1 : Int).toNat * 3 + 1, none⟩ (.int .i64 (wrap64 (x1_1 + 1))))) ?hg ?ho ?hn ?hr ?_; (case ho => rfl); (case hg => rfl); (case hn => rfl); (case hr => first | (go_simp; done) | (go_simp; rfl)); intro w12 hw; have hg : w10.grownBy w12 (some go5) := (by rw [hw]; exact HP11.2); have hp_ : Kd.R k49 49 w12 w0.heap.size (fun k_ => (P0_ k_ ∨ w.heap.size ≤ k_)) (.slice (some ⟨go5, 0, none⟩) x0_1.length co8) y253 := (by rw [hw, Ny253.out]; exact HP11.1); clear HP11; have n0_ := Aside0.mk (hp_); have n1_ := Aside0.mk ((by rw [hw]; exact below_set (HB.out) GB5.out : Below w0.heap.size w0 w12)); have n2_ := Aside0.mk (Kept.of_grown (S := (fun k_ => P0_ k_)) hg (by repeat (first | (with_reducible first | exact HK.out | apply Kept.alloc | apply Kept.drewN | apply Kept.drew) | exact HK.out)) (fun k_ e_ => (HO_0.out.1 k_ e_))); clear HO_0; clear HB; clear HK; have HO_0 := n0_; have HB := n1_; have HK := n2_; clear n0_ n1_ n2_; clear hg hw hp_; have p7 : 0 ≤ (x5_1 : Int) := of_decide_eq_true (by first | (with_reducible assumption) | assumption); have q7 : (x5_1 : Int) < ((x0_1.length : Int) : Int) := of_decide_eq_true (by first | (with_reducible assumption) | assumption); obtain ⟨ce7, hcl7, hM7, hcc7, hfr7⟩ := Kd.R_elem HO_0.out z49 (x5_1 : Int) p7 q7; obtain rfl := k49_openM hM7; have hx7_0 : w12.cell? ⟨go5, (x5_1 : Int).toNat * 3, none⟩ = some (.int .i64 ((rd_T49 y253 x5_1).f0)) := hcc7 0 _ rfl; have hx7_1 : w12.cell? ⟨go5, (x5_1 : Int).toNat * 3 + 1, none⟩ = some (.int .i64 ((rd_T49 y253 x5_1).f1)) := hcc7 1 _ rfl; have hx7_2 : w12.cell? ⟨go5, (x5_1 : Int).toNat * 3 + 2, none⟩ = some (.int .i64 ((rd_T49 y253 x5_1).f2)) := hcc7 2 _ rfl; have hf7_0 : w12.frozen? ⟨go5, (x5_1 : Int).toNat * 3, none⟩ = false := hfr7 0; have hf7_1 : w12.frozen? ⟨go5, (x5_1 : Int).toNat * 3 + 1, none⟩ = false := hfr7 1; have hf7_2 : w12.frozen? ⟨go5, (x5_1 : Int).toNat * 3 + 2, none⟩ = false := hfr7 2; clear hcl7 hcc7 hfr7 hM7; replace p7 := eq_true p7; replace q7 := eq_true q7; have HX13 := Aside0.mk (show Kd.R k49 49 w12 w0.heap.size (fun k_ => (P0_ k_ ∨ w.heap.size ≤ k_)) (.slice (some ⟨go5, 0, none⟩) x0_1.length co8) y253 from (by (with_reducible repeat (first | apply Kd.R_alloc | apply Kd.R_drewN | apply Kd.R_drew)); exact HO_0.out)); obtain ⟨ce13, hcl13, hM13, hcc13, hfr13⟩ := Kd.R_elem HX13.out z49 (x5_1 : Int) (of_decide_eq_true (by first | (with_reducible assumption) | assumption)) (by have h_ : (x5_1 : Int) < ((x0_1.length : Int) : Int) := of_decide_eq_true (by first | (with_reducible assumption) | assumption); first | exact h_ | (have e_ := (Kd.R_reads' HO_0.out).1; omega) | simpa using h_); obtain rfl := k49_openM hM13; have HP13 := Kd.R_seg HX13.out (x5_1 : Int) (of_decide_eq_true (by first | (with_reducible assumption) | assumption)) (by have h_ : (x5_1 : Int) < ((x0_1.length : Int) : Int) := of_decide_eq_true (by first | (with_reducible assumption) | assumption); first | exact h_ | (have e_ := (Kd.R_reads' HO_0.out).1; omega) | simpa using h_) (seg := [.int .i64 (wrap64 ((wrap64 (x1_1 + 1)) + 1))]) (j := 2) hcl13 hcc13 (show 3 ≤ 3 from by decide) (x' := (⟨(rd_T49 y253 x5_1).f0, (rd_T49 y253 x5_1).f1, wrap64 ((wrap64 (x1_1 + 1)) + 1)⟩ : S49)) (k49_mkM _ _ _ (⟨(rd_T49 y253 x5_1).f0, (rd_T49 y253 x5_1).f1, wrap64 ((wrap64 (x1_1 + 1)) + 1)⟩ : S49) ) (fun _ hk => hk); have hx13_2 := hcc13 2 _ rfl; (try simp only [show (k49).sz = 3 from rfl, Nat.mul_one, Nat.add_zero] at hx13_2); have hf13_2 := hfr13 2; (try simp only [show (k49).sz = 3 from rfl, Nat.mul_one, Nat.add_zero] at hf13_2); clear hcl13 hcc13 hfr13 hM13) | ((with_reducible refine gate_store (t := 3) (p := 30) rfl ?_); refine store_event (t := 3) (p := 30) (v := ?vo_w14) (w1 := (w12.setCell ⟨go5, (x5_1 : Int).toNat * 3 + 2, none⟩ (.int .i64 (wrap64 ((wrap64 (x1_1 + 1)) + 1))))) ?hg ?ho ?hn ?hr ?_; (case ho => rfl); (case hg => rfl); (case hn => rfl); (case hr => first | (go_simp; done) | (go_simp; rfl)); intro w14 hw; have hg : w12.grownBy w14 (some go5) := (by rw [hw]; exact HP13.2); have hp_ : Kd.R k49 49 w14 w0.heap.size (fun k_ => (P0_ k_ ∨ w.heap.size ≤ k_)) (.slice (some ⟨go5, 0, none⟩) x0_1.length co8) y254 := (by rw [hw, Ny254.out]; exact HP13.1); clear HP13; have n0_ := Aside0.mk (hp_); have n1_ := Aside0.mk ((by rw [hw]; exact below_set (HB.out) GB5.out : Below w0.heap.size w0 w14)); have n2_ := Aside0.mk (Kept.of_grown (S := (fun k_ => P0_ k_)) hg (by repeat (first | (with_reducible first | exact HK.out | apply Kept.alloc | apply Kept.drewN | apply Kept.drew) | exact HK.out)) (fun k_ e_ => (HO_0.out.1 k_ e_))); clear HO_0; clear HB; clear HK; have HO_0 := n0_; have HB := n1_; have HK := n2_; clear n0_ n1_ n2_; clear hg hw hp_))
          go_roundg k1
          case measure => have := HK1.out; omega
          case rel => exact ⟨(y254), (wrap64 ((wrap64 ((wrap64 (x1_1 + 1)) + 1)) + 1)), (wrap64 (x5_1 + 1)), (by first | rfl | (simp; done) | (simp [*]; done)), (by first | rfl | (simp; done) | (simp [*]; done)), H', ⟨by have := HK1.out; omega⟩, ⟨by (with_reducible repeat (first | apply Kd.R_alloc | apply Kd.R_drewN | apply Kd.R_drew)); exact HO_0.out⟩, ⟨by repeat (first | (with_reducible first | exact HK.out | apply Kept.alloc | apply Kept.drewN | apply Kept.drew) | exact HK.out)⟩, ⟨by repeat (first | (with_reducible first | exact HB.out | apply below_alloc | apply pw_below_drewN | apply below_drew1) | exact HB.out)⟩⟩
        · rw [if_neg c4] at H
          exact absurd H (by simp)
      · rw [if_neg c3] at H
        have c3b0 : decide (x5_1 < (x0_1.length : Int)) = false := decide_eq_false c3
        clear c3
        simp only [Option.some.injEq, Prod.mk.injEq] at H
        obtain ⟨rfl, rfl⟩ := H
        obtain ⟨Ao15, co15, eo15⟩ := Kd.R_slice HO_0.out
        subst eo15
        go_wp2
        go_ret
        exact ⟨by first | rfl | (simp [errW_none, errW_some] <;> rfl) | (simp [*, errW_none, errW_some] <;> rfl), by (with_reducible repeat (first | apply Kd.R_alloc | apply Kd.R_drewN | apply Kd.R_drew)); exact HO_0.out, by repeat (first | (with_reducible first | exact HB.out | apply below_alloc | apply pw_below_drewN | apply below_drew1) | exact HB.out), by repeat (first | (with_reducible first | exact HK.out | apply Kept.alloc | apply Kept.drewN | apply Kept.drew) | exact HK.out)⟩

end Go.Proofs.Ytkaihdpmjlhlaaa.Q

namespace Go.Proofs.Ytkaihdpmjlhlaaa.Q
open Go.RowKit Go.Proofs.YtkaihdpmjlhlaaaW.PrintWords Go.Proofs.YtkaihdpmjlhlaaaW.PrintLast Go.Proofs.YtkaihdpmjlhlaaaW.PrintMore
set_option linter.unusedVariables false
set_option linter.unusedSimpArgs false

def marksItem (a : Int) (n : Nat) : List S49 := (List.range n).map fun (j : Nat) => ⟨a + 3 * (j : Int), a + 3 * (j : Int) + 1, a + 3 * (j : Int) + 2⟩
theorem marksItem_length (a : Int) (n : Nat) : (marksItem a n).length = n := by simp [marksItem]

theorem markItemS_l0 (a : Int) (n : Nat) (h0 : 0 ≤ a) (hn : a + 3 * n ≤ 100000000000000) : ∀ d k i (x : List S49), i + d = n → d < k → x.length = n →
    ∃ y, laws_markItemS.l0 k x (a + 3 * (i : Int)) (i : Int) = some (a + 3 * (n : Int), y) ∧ y.length = n := by
  intro d
  induction d with
  | zero =>
    intro k i x hi hk hx
    obtain ⟨k, rfl⟩ : ∃ m, k = m + 1 := ⟨k - 1, by omega⟩
    simp only [laws_markItemS.l0]; rw [if_neg (by omega)]
    have : i = n := by omega
    subst this
    exact ⟨x, rfl, hx⟩
  | succ d ih =>
    intro k i x hi hk hx
    obtain ⟨k, rfl⟩ : ∃ m, k = m + 1 := ⟨k - 1, by omega⟩
    simp only [laws_markItemS.l0]
    rw [if_pos (by omega), if_pos (by omega)]
    simp only [Option.bind_some]
    rw [w64Item (i := a + 3 * (i : Int) + 1) (by omega) (by omega), w64Item (i := a + 3 * (i : Int) + 1 + 1) (by omega) (by omega), w64Item (i := a + 3 * (i : Int) + 1 + 1 + 1) (by omega) (by omega), w64Item (i := (i : Int) + 1) (by omega) (by omega)]
    rw [show a + 3 * (i : Int) + 1 + 1 + 1 = a + 3 * ((i + 1 : Nat) : Int) by omega, show (i : Int) + 1 = ((i + 1 : Nat) : Int) by omega]
    exact ih k (i + 1) _ (by omega) (by omega) (by simp [hx])
/-- Marking counts on, whatever it writes. -/
theorem markItemS_eq (x : List S49) (a : Int) (h0 : 0 ≤ a) (hn : a + 3 * x.length ≤ 100000000000000) (k : Nat) (hk : x.length < k) : ∃ y, laws_markItemS.f k x a = some (a + 3 * (x.length : Int), y) := by
  unfold laws_markItemS.f
  obtain ⟨y, h, _⟩ := markItemS_l0 a x.length h0 hn x.length k 0 x (by omega) hk rfl
  exact ⟨y, by simpa using h⟩
theorem markItemS_ev (x : List S49) (h : x.length ≤ 10000000) (a : Int) (h0 : 0 ≤ a) (hn : a ≤ 10000000000) : ∃ y, Ev (fun k => laws_markItemS.f k x a) (a + 3 * (x.length : Int), y) := by
  obtain ⟨y, hy⟩ := markItemS_eq x a h0 (by omega) (x.length + 1) (by omega)
  exact ⟨y, Ev.of (fun k => laws_markItemS.mono x a k) hy⟩
end Go.Proofs.Ytkaihdpmjlhlaaa.Q

namespace Go.Proofs.Ytkaihdpmjlhlaaa.Q
open Go.RowKit Go.Proofs.YtkaihdpmjlhlaaaW.PrintWords Go.Proofs.YtkaihdpmjlhlaaaW.PrintLast Go.Proofs.YtkaihdpmjlhlaaaW.PrintMore
set_option linter.unusedVariables false
set_option linter.unusedSimpArgs false

theorem toIntS_l0 (l : List Int) (hn : l.length ≤ 100000000000000) : ∀ d k i (x : List Int), i + d = l.length → d < k → x.length = l.length → (∀ j (hj : j < x.length) (hj2 : j < l.length), j < i → x[j] = l[j]) →
    laws_toIntS.l0 k l x (i : Int) = some l := by
  intro d
  induction d with
  | zero =>
    intro k i x hi hk hx hj
    obtain ⟨k, rfl⟩ : ∃ m, k = m + 1 := ⟨k - 1, by omega⟩
    simp only [laws_toIntS.l0]; rw [if_neg (by omega)]
    congr 1
    apply List.ext_getElem
    · omega
    · intro j h1 h2
      exact hj j h1 (by omega) (by omega)
  | succ d ih =>
    intro k i x hi hk hx hj
    obtain ⟨k, rfl⟩ : ∃ m, k = m + 1 := ⟨k - 1, by omega⟩
    simp only [laws_toIntS.l0]
    rw [if_pos (by omega), if_pos (by omega), if_pos (by omega), w64 (i := (i : Int) + 1) (by omega) (by omega), rd_nat l i (by omega)]
    have := ih k (i + 1) (x.set (i : Int).toNat (l[i]'(by omega))) (by omega) (by omega) (by simp [hx]) (fun j hj1 hj2 hj3 => by
      simp only [Int.toNat_natCast]
      rw [List.getElem_set]
      split
      · rename_i e; subst e; rfl
      · rename_i e; exact hj j (by simpa using hj1) hj2 (by omega))
    rw [show ((i + 1 : Nat) : Int) = (i : Int) + 1 by omega] at this
    exact this
theorem toIntS_eq (l : List Int) (hn : l.length ≤ 1000000000) (k : Nat) (hk : l.length < k) : laws_toIntS.f k l = some l := by
  unfold laws_toIntS.f
  rw [if_pos (by omega), if_pos (by omega)]
  exact toIntS_l0 l (by omega) l.length k 0 _ (by omega) hk (by simp) (fun j _ _ h => absurd h (by omega))
theorem toIntS_ev (a : List Int) (h : a.length ≤ 10000000) : Ev (fun k => laws_toIntS.f k a) a := ⟨a.length + 1, fun k hk => toIntS_eq a (by omega) k (by omega)⟩
end Go.Proofs.Ytkaihdpmjlhlaaa.Q

namespace Go.Proofs.Ytkaihdpmjlhlaaa.Pure
open Go.RowKit Go.Proofs.Ytkaihdpmjlhlaaa.Q Go.Proofs.YtkaihdpmjlhlaaaW.PrintWords Go.Proofs.YtkaihdpmjlhlaaaW.PrintLast
set_option linter.unusedVariables false
set_option linter.unusedSimpArgs false

set_option maxHeartbeats 2000000 in
set_option maxRecDepth 10000 in
theorem FnExactBestExchange : ∀ (l0 : List S51) (a1_0 a1_1 : Int) (l2 : List Int), l0.length ≤ maxLen → l0.length * 24 ≤ 140737488351232 → (∀ x ∈ l0, (Lit.int .i64 x.f0).wf = true ∧ (Lit.int .i64 x.f1).wf = true ∧ (Lit.int .i64 x.f2).wf = true) → (Lit.int .i64 a1_0).wf = true → (Lit.int .i64 a1_1).wf = true → l2.length ≤ maxLen → l2.length * 8 ≤ 140737488351232 → (∀ x ∈ l2, (Lit.int .i64 x).wf = true) → ∃ k, laws_FnExactBestExchange.f k l0 a1_0 a1_1 l2 = some true := by
  intro l0 a1_0 a1_1 l2 _ h0 g0 w1_0 w1_1 _ h2 g2
  refine Ev.rounds (g := fun k => laws_FnExactBestExchange.f k l0 a1_0 a1_1 l2) ?_
  by_cases hl2 : l2.length ≤ 1048576
  · skip
    by_cases hl0 : l0.length ≤ 1048576
    · skip
      have hm0 : (l0.map cvItem).length ≤ 1048576 := by simpa using hl0
      obtain ⟨r, hs, hi⟩ := bestExchange_both (l0.map cvItem) a1_0 a1_1 l2 (by omega) (by omega)
      simp only [laws_FnExactBestExchange.f, laws_toCase.f, szItemS_small l0 hl0, Option.bind_some]
      repeat' (first
        | exact Ev_some _
        | (simp (disch := omega) only [laws_toCase.f, Option.bind_some, if_neg, if_pos, bne_self_eq_false, Bool.false_eq_true, if_false, if_true, eq_self])
        | refine Ev.bind (toItemS_ev l0 (by omega)) ?_
        | refine Ev.bind (eqItemS_ev (l0.map cvItem) (by omega)) ?_
        | refine Ev.bind hy0 ?_
        | refine Ev.bind (toIntS_ev l2 (by omega)) ?_
        | refine Ev.bind (eqIntS_ev l2 (by omega)) ?_
        | refine Ev.bind (markIntS_ev l2 (by omega) _ (by omega) (by omega)) ?_
        | refine Ev.bind hs ?_
        | refine Ev.bind hi ?_
        | refine Ev.step (fun k => by rw [laws_FnExactBestExchange.j0]) ?_)
    · simp only [laws_FnExactBestExchange.f, szItemS_great l0 (by omega) (by omega)]
      simp (disch := omega) only [Option.bind_some, if_neg, if_pos]
      exact Ev_some _
  · simp (disch := omega) only [laws_FnExactBestExchange.f, if_pos, if_neg]
    exact Ev_some _
end Go.Proofs.Ytkaihdpmjlhlaaa.Pure

namespace Go.Proofs.Ytkaihdpmjlhlaaa.HO
open Go.ChangeShapes Go.WideShapes Go.Deep Go.RowKit Go.Proofs.YtkaihdpmjlhlaaaW.PrintWords
set_option linter.unusedVariables false
section
variable {H : Type} {enc : TypeId × Value → H} {P : Program} {w : World} {base : Nat} {spare : Nat → Bool} {held : Bool}

/-- A slice of structs of n whole numbers each, opened: F i j is field j of element i. -/
theorem open_ints_struct {t e : TypeId} {fs : Array Field} {fuel : Nat} {cs : List Value} {x : DataW H × List MemPlace} (ht : P.underlying t = some (.slice e)) (he : P.underlying e = some (.struct fs))
    (hone : oneCellFields P fs = true) (hC : P.cellsOf e = fs.size) (hk : ∀ (j : Nat) (f : Field), fs[j]? = some f → P.underlying f.type = some (.int .i64)) (h : DataW.trod enc P w base spare held fuel t cs = some x) :
    (cs = [.slice none 0 0] ∧ x = (.nil, [])) ∨
    ∃ (a : Addr) (len cap : Nat) (F : Nat → Nat → Int) (el sp : List (DataW H)) (ps : List MemPlace), cs = [.slice (some a) len cap] ∧ len ≤ cap ∧ cap ≤ maxLen ∧ x = (.slice el sp, ps) ∧ el.length = len ∧
      ∀ i, i < len → ∀ j, j < fs.size → w.cell? (a.add (i * fs.size + j)) = some (.int .i64 (F i j)) ∧ (Lit.int .i64 (F i j)).wf = true := by
  rcases open_slice ht h with h0 | ⟨a, len, cap, m, n, D, Pl, hcs, hb, hl, hm, hmm, hx, hi⟩
  · exact .inl h0
  · have hlm : len ≤ m := by rw [hmm]; split <;> omega
    have key : ∀ i, i < len → ∃ G : Nat → Int, ∀ j, j < fs.size → w.cell? (a.add (i * fs.size + j)) = some (.int .i64 (G j)) ∧ (Lit.int .i64 (G j)).wf = true := fun i hil => by
      obtain ⟨cs', hc, ht'⟩ := hi i (by omega)
      rw [hC] at hc
      obtain ⟨ys, n', hn', hy, hlen, hyl, hf⟩ := DataW.trod_struct he ht'
      obtain ⟨_, hcl, hat⟩ := World.cells?_some hc
      refine choose_lt (α := Int) (p := fun j v => w.cell? (a.add (i * fs.size + j)) = some (.int .i64 v) ∧ (Lit.int .i64 v).wf = true) (fun j hj => ?_)
      have hfj : fs[j]? = some fs[j] := Array.getElem?_eq_getElem hj
      obtain ⟨ho, hk1⟩ := hone_of hone j _ hfj
      have hcell := hat j hj
      have hv : cs'[j]? = some (cs'[j]'(by omega)) := List.getElem?_eq_getElem (by omega)
      have h1 := hf j _ hfj
      rw [ho, hk1] at h1
      have hone' : (cs'.drop j).take 1 = [cs'[j]'(by omega)] := by
        rw [List.drop_eq_getElem_cons (by omega)]
        rfl
      rw [hone'] at h1
      have hys : ys[j]? = some (ys[j]'(by omega)) := List.getElem?_eq_getElem (by omega)
      obtain ⟨v, e0, _, wv⟩ := DataW.trod_int (hk j _ hfj) (h1.trans hys)
      refine ⟨v, ?_, wv⟩
      rw [← Go.Deep.add_add, hcell, hv]
      simp only [List.cons.injEq, and_true] at e0
      rw [e0]
    obtain ⟨F, hF⟩ := choose_lt (α := Nat → Int) (p := fun i G => ∀ j, j < fs.size → w.cell? (a.add (i * fs.size + j)) = some (.int .i64 (G j)) ∧ (Lit.int .i64 (G j)).wf = true) key
    exact .inr ⟨a, len, cap, F, _, _, _, hcs, hl, hm, hx, by simp, hF⟩

/-- The same of an argument: the numbers, and how many at most. -/
theorem open_structs {t e : TypeId} {fs : Array Field} {a : Option Addr} {len cap : Nat} {d : DataW H} {ps : List MemPlace} {ts : List TypeId} {ds : List (DataW H)} {j : Nat}
    (hsz : (DataW.weightsEach P ts ds).all (· ≤ reachBytes) = true) (htj : ts[j]? = some t) (hdj : ds[j]? = some d) (ht : P.underlying t = some (.slice e)) (he : P.underlying e = some (.struct fs))
    (hone : oneCellFields P fs = true) (hC : P.cellsOf e = fs.size) (hk : ∀ (j : Nat) (f : Field), fs[j]? = some f → P.underlying f.type = some (.int .i64)) {B : Nat} (hB : P.bytesOf e = B)
    (h : DataW.Trod enc P w base spare held t (.slice a len cap) d ps) :
    ∃ F : Nat → Nat → Int, len ≤ cap ∧ len ≤ maxLen ∧ len * B ≤ 140737488351232 ∧ (0 < len → ∃ ad, a = some ad ∧ ∀ i, i < len → ∀ j, j < fs.size → w.cell? (ad.add (i * fs.size + j)) = some (.int .i64 (F i j))) ∧ ∀ i, i < len → ∀ j, j < fs.size → (Lit.int .i64 (F i j)).wf = true := by
  obtain ⟨fuel, hf⟩ := h
  rcases open_ints_struct ht he hone hC hk hf with ⟨hcs, _⟩ | ⟨x, l, c, F, el, sp, ps', hcs, hl, hm, hx, hel, hF⟩
  · simp [Value.cells] at hcs
    obtain ⟨rfl, rfl, rfl⟩ := hcs
    exact ⟨fun _ _ => 0, by omega, by omega, by omega, fun h => absurd h (by omega), fun i hi => absurd hi (by omega)⟩
  · simp [Value.cells] at hcs
    obtain ⟨rfl, rfl, rfl⟩ := hcs
    obtain ⟨hx, _⟩ := Prod.mk.inj hx
    subst hx
    have z := sized_slice hsz htj hdj ht
    rw [hB, hel] at z
    refine ⟨F, hl, by omega, ?_, fun _ => ⟨x, rfl, fun i hi j hj => (hF i hi j hj).1⟩, fun i hi j hj => (hF i hi j hj).2⟩
    have : reachBytes = 140737488351232 := by decide
    rw [this] at z
    exact Nat.le_trans (Nat.mul_le_mul_right _ (by omega)) z

/-- A struct of two whole numbers, by value. -/
theorem open_pair {r : Reach} {b0 : Nat} {t : TypeId} {f0 f1 : Field} {v : Value} {d : DataW H} {p : List MemPlace} (hs : P.underlying t = some (.struct #[f0, f1])) (hone : oneCellFields P #[f0, f1] = true) (hC : P.cellsOf t = 2)
    (h0 : P.underlying f0.type = some (.int .i64)) (h1 : P.underlying f1.type = some (.int .i64)) (hv : Value.okWide P w r b0 t v) (h : DataW.Trod enc P w base spare held t v d p) :
    ∃ x y : Int, v = .agg #[.int .i64 x, .int .i64 y] ∧ p = [] ∧ (Lit.int .i64 x).wf = true ∧ (Lit.int .i64 y).wf = true := by
  obtain ⟨v0, v1, y0, y1, n, rfl, rfl, rfl, g0, g1⟩ := Go.Joins.open_agg2 hs hone hC hv h
  obtain ⟨x, e0, rfl, w0⟩ := DataW.trod_int h0 g0
  obtain ⟨y, e1, rfl, w1⟩ := DataW.trod_int h1 g1
  simp only [List.cons.injEq, and_true] at e0 e1
  subst e0 e1
  exact ⟨x, y, rfl, rfl, w0, w1⟩
end
end Go.Proofs.Ytkaihdpmjlhlaaa.HO
