/-
  Part 2 of the proof of FnExactLeastWaste: what Go functions that it reaches compute, each shown by a walk of its code, and plain laws on numbers and lists.
  CONDITIONS: each theorem's own, as stated.
-/
import Derived.Test.YtfhaclkjiolmjaaZFnExactLeastWaste1
import Derived.RangeFuncBox
import Derived.RangeFuncNested
import Derived.Deep.RegionHeld3
import Derived.IntWalk
import Derived.Laws.EntriesVeiled
import Derived.BigQuiet
namespace Go.Proofs.Ytfhaclkjiolmjaa.Q
open Go.RowKit Go.Shelf Go.Proofs.YtfhaclkjiolmjaaW.PrintWords Go.Proofs.YtfhaclkjiolmjaaW.PrintLast Go.Proofs.YtfhaclkjiolmjaaW.PrintMore
set_option linter.unusedVariables false
set_option linter.unusedSimpArgs false

/-- From W to W' only the blocks S, of the old ones, have turned. -/
structure Fr (S : Nat → Prop) (W W' : World) : Prop where
  os : W'.os = W.os
  tape : W'.tape = W.tape
  output : W'.output = W.output
  size : W.heap.size ≤ W'.heap.size
  block : ∀ k, k < W.heap.size → ¬ S k → W'.heap[k]? = W.heap[k]?
theorem Fr.refl (S : Nat → Prop) (W : World) : Fr S W W := ⟨rfl, rfl, rfl, Nat.le_refl _, fun _ _ _ => rfl⟩
theorem Fr.trans {S : Nat → Prop} {a b c : World} (h : Fr S a b) (k : Fr S b c) : Fr S a c :=
  ⟨k.os.trans h.os, k.tape.trans h.tape, k.output.trans h.output, Nat.le_trans h.size k.size, fun i hi hs => (k.block i (Nat.lt_of_lt_of_le hi h.size) hs).trans (h.block i hi hs)⟩
theorem Fr.of {S : Nat → Prop} {W W' : World} (h : Below W.heap.size W W') : Fr S W W' := ⟨h.os, h.tape, h.output, h.size, fun k hk _ => h.block k hk⟩
theorem Fr.then {S : Nat → Prop} {a b c : World} (h : Fr S a b) (k : Below b.heap.size b c) : Fr S a c := h.trans (Fr.of k)
theorem Fr.below {S : Nat → Prop} {W W' : World} {B : Nat} (h : Fr S W W') (hS : ∀ k, S k → B ≤ k) (hB : B ≤ W.heap.size) : Below B W W' :=
  ⟨h.os, h.tape, h.output, h.size, fun k hk => h.block k (by omega) (fun hs => by have := hS k hs; omega)⟩
theorem Fr.alloc {S : Nat → Prop} {a W : World} (h : Fr S a W) (o : Obj) : Fr S a (W.alloc o) := h.then ((Below.refl _ W).alloc (Nat.le_refl _) o)
theorem Fr.drew {S : Nat → Prop} {a W : World} (h : Fr S a W) : Fr S a W.drew := h.then ((Below.refl _ W).drew)
theorem Fr.set {S : Nat → Prop} {a W : World} (h : Fr S a W) (p : Addr) (u : Value) (hp : S p.block ∨ a.heap.size ≤ p.block) : Fr S a (W.setCell p u) :=
  ⟨h.os, h.tape, h.output, Nat.le_trans h.size (by simp [World.setCell]), fun k hk hs => by
    rw [Below.heap_setCell _ _ _ _ (fun e => by subst e; rcases hp with hp | hp; exact hs hp; omega)]
    exact h.block k hk hs⟩
theorem box_fr {S : Nat → Prop} {W W' : World} {B : Nat} {t : TypeId} {v : Value} (h : Boxed W B t v) (hf : Fr S W W') (hs : ¬ S B) : Boxed W' B t v := (hf.block B h.lt hs).trans h
theorem box_below {W W' : World} {B : Nat} {t : TypeId} {v : Value} (h : Boxed W B t v) (hf : Below W.heap.size W W') : Boxed W' B t v := (hf.block B h.lt).trans h
theorem R_fr {α : Type} {d : Kd α} {e : Nat} {w w1 : World} {base : Nat} {ok : Nat → Prop} {v : Value} {xs : List α} {S : Nat → Prop} (h : d.R e w base ok v xs) (hf : Fr S w w1) (hs : ∀ k, ok k → ¬ S k) : d.R e w1 base ok v xs :=
  Kd.R_step h (fun k hk hlt => hf.block k hlt (hs k hk))

theorem Fr.grown {S : Nat → Prop} {a W W' : World} (h : Fr S a W) {row : Option Nat} (hg : W.grownBy W' row) (hr : ∀ k, row = some k → a.heap.size ≤ k) : Fr S a W' :=
  ⟨hg.os.trans h.os, hg.tape.trans h.tape, hg.output.trans h.output, Nat.le_trans h.size hg.size, fun k hk hs => (hg.block k (Nat.lt_of_lt_of_le hk h.size) (fun e => by have := hr k e.symm; omega)).trans (h.block k hk hs)⟩
theorem Fr.grownS {S : Nat → Prop} {a W W' : World} (h : Fr S a W) {row : Option Nat} (hg : W.grownBy W' row) (hr : ∀ k, row = some k → S k ∨ a.heap.size ≤ k) : Fr S a W' :=
  ⟨hg.os.trans h.os, hg.tape.trans h.tape, hg.output.trans h.output, Nat.le_trans h.size hg.size, fun k hk hs => (hg.block k (Nat.lt_of_lt_of_le hk h.size) (fun e => by rcases hr k e.symm with h1 | h1; exact hs h1; omega)).trans (h.block k hk hs)⟩
theorem Fr.weaken {S S' : Nat → Prop} {a b : World} (h : Fr S' a b) (hs : ∀ k, k < a.heap.size → S' k → S k) : Fr S a b := ⟨h.os, h.tape, h.output, h.size, fun k hk hn => h.block k hk (fun hs' => hn (hs k hk hs'))⟩
theorem Fr.thenS {S S' : Nat → Prop} {a b c : World} (h : Fr S a b) (k : Fr S' b c) (hs : ∀ q, q < a.heap.size → S' q → S q) : Fr S a c :=
  ⟨k.os.trans h.os, k.tape.trans h.tape, k.output.trans h.output, Nat.le_trans h.size k.size, fun i hi hn => (k.block i (Nat.lt_of_lt_of_le hi h.size) (fun h' => hn (hs i hi h'))).trans (h.block i hi hn)⟩
theorem held_keep {S : Nat → Prop} {wr W' : World} {B : Nat} {t : TypeId} {v : Value} (x : Boxed wr B t v) (hs : ¬ S B) (h : Fr S wr W') : W'.cell? ⟨B, 0, none⟩ = some v ∧ Fr S wr W' := ⟨(box_fr x h hs).cell, h⟩
theorem lit_cell (W : World) (u : Value) (t : TypeId) : (W.alloc (.cells #[u] t)).cell? ⟨W.heap.size, 0, none⟩ = some u := (Boxed.new W t u).cell
theorem lit_cell2 {W w6 : World} {u : Value} {t : TypeId} (hb : Below (W.alloc (.cells #[u] t)).heap.size (W.alloc (.cells #[u] t)) w6) : w6.cell? ⟨W.heap.size, 0, none⟩ = some u := (box_below (Boxed.new W t u) hb).cell
theorem lit_cell3 {W w6 : World} {u : Value} {t : TypeId} (hb : Below (W.alloc (.cells #[u] t)).drew.heap.size (W.alloc (.cells #[u] t)).drew w6) : w6.cell? ⟨W.heap.size, 0, none⟩ = some u := lit_cell2 (W := W) (u := u) (t := t) ((Below.refl _ _).drew.trans hb)
theorem own_new {α : Type} {d : Kd α} {e : Nat} {S : Nat → Prop} {wr w w6 : World} {base : Nat} {v : Value} {xs : List α} (hR : d.R e w6 w.heap.size (fun _ => True) v xs) (hF : wr.heap.size ≤ w.heap.size) (hS : ∀ k, S k → k < wr.heap.size) (hb : base ≤ wr.heap.size) : d.R e w6 base (fun k => ¬ S k ∧ wr.heap.size ≤ k) v xs :=
  Kd.R_lower (Kd.R_mono (Kd.R_bound hR) (fun k hk => ⟨fun hs => by have := hS k hs; have := hk.2.1; omega, by have := hk.2.1; omega⟩)) (by omega)

theorem fresh_ok {S : Nat → Prop} {wr W : World} (hS : ∀ k, S k → k < wr.heap.size) (h : wr.heap.size ≤ W.heap.size) : ∀ k, W.heap.size ≤ k → ¬ S k ∧ wr.heap.size ≤ k := fun k hk => ⟨fun hs => by have := hS k hs; omega, by omega⟩

/-- An append of one number to a row of one's own; the literal lies anywhere. -/
theorem app_int {ops : Array Oper} {o : Oper} {a : Act} {Q : Exit → Act → World → Prop} {Kc : Act → World → Prop} (hw : Region.wanted o (yielded ops a.tmps) = true) (s x : Operand) (W : World) (base : Nat) (ok : Nat → Prop)
    (ho : o.op = .call { callee := .builtin .append, args := #[s, x], argTypes := #[22, 22] })
    (v : Value) (xs : List Int) (p : Int) (ad : Addr) (hs : a.eval s = v) (hx : a.eval x = .slice (some ad) 1 1) (hcell : W.cell? ad = some (.int .i64 p)) (hl : xs.length < 1000000)
    (HO : Kd.R (Kd.int .i64) 3 W base ok v xs) (hbase : base ≤ W.heap.size) (hfresh : ∀ k, W.heap.size ≤ k → ok k)
    (h : ∀ v1 w1, Kd.R (Kd.int .i64) 3 w1 base ok v1 (xs ++ [p]) → W.grownBy w1 v.ownBlock → Kc (a.put o.dst v1) w1) :
    if Region.wanted o (yielded ops a.tmps) = true then Oper.wp Try.prog o a W Kc Q else Kc (a.put o.dst undef) W := by
  rw [if_pos hw]
  obtain ⟨i0, hi, hz0, hz1, hz2⟩ := info_parts info3
  obtain ⟨v1, w1, hr, hown, hg, _, hat⟩ := run_append_own_at (P := Try.prog) W base 22 o.type 3 i0 (.int .i64 0) 1 8 Try.underlying22 hi hz0 hz1 hz2 rfl (by decide) v xs.length (encs (Value.int .i64) xs) (Kd.own_of_R HO) ad 1 1 [.int .i64 p] (by simp)
    (fun j u hj => by
      have hj0 : j = 0 := by have := (List.getElem?_eq_some_iff.1 hj).1; simp at this; omega
      subst hj0
      have hu : Value.int .i64 p = u := by simpa using hj
      subst hu
      have e : ad.add 0 = ad := by simp [Addr.add]
      rw [e]; exact hcell) (fun u hu => by rw [List.mem_singleton.1 hu]; rfl) (by simp only [maxLen]; omega) (by omega) hbase
  unfold Oper.wp execOp
  simp only [ho, resolve, invoke, builtin, Sem.run_bind, Sem.run_pure, Result.andThen_ok, List.map_toArray, List.map_cons, List.map_nil, hs, hx, hr]
  refine h v1 w1 (Kd.R_of_own (by simpa [encs] using hown) (fun k hk => ?_)) hg
  rcases hat with hat | hat
  · exact HO.1 k (hat ▸ hk)
  · rw [hat] at hk
    injection hk with hk
    subst hk
    exact hfresh _ (Nat.le_refl _)
end Go.Proofs.Ytfhaclkjiolmjaa.Q

namespace Go.Proofs.Ytfhaclkjiolmjaa.Q
open Go.RowKit Go.Shelf Go.Proofs.YtfhaclkjiolmjaaW.PrintWords Go.Proofs.YtfhaclkjiolmjaaW.PrintLast Go.Proofs.YtfhaclkjiolmjaaW.PrintMore
set_option linter.unusedVariables false
set_option linter.unusedSimpArgs false

abbrev kInt : Kd Int := Kd.int .i64
/-- f at d numbers from n on, joined. -/
def restW (f : Nat → List (List Int × Int)) : Nat → Nat → List (List Int × Int)
  | 0, _ => []
  | d + 1, n => f n ++ restW f d (n + 1)
/-- All patterns that begin with ch, in order, with what is left. -/
def patV : List Int → List Int → Int → List (List Int × Int)
  | [], ch, left => [(ch, left)]
  | x :: xs, ch, left => restW (fun n => patV xs (ch ++ [(n : Int)]) (left - (n : Int) * x)) (left / x + 1).toNat 0

/-- What the function that patterns is handed does. -/
structure Each {σ : Type} (m : Nat) (S : Nat → Prop) (I : σ → World → Prop) (base : Nat) (w1 : World) (ge : Nat) (bde fre : Array Value) (step : σ → List Int × Int → σ) : Prop where
  ee : ∀ args w, (callFunc ge args).run Try.prog w = .ok (.enter ge args) w
  st : ∀ s W W', I s W → Below W.heap.size W W' → I s W'
  each : ∀ s W v ch left, Fr S w1 W → I s W → Kd.R kInt 3 W base (fun k => ¬ S k) v ch → ch.length = m → (0 ≤ left ∧ left ≤ 60) →
    Calls Try.prog ge (bde ++ (#[v, .int .i64 left] ++ fre)) W fun e w' => e = .returned (.tuple #[]) ∧ I (step s (ch, left)) w' ∧ Fr S W w'
theorem pat_keep {S : Nat → Prop} {wr W' : World} {Bc Bl : Nat} {t1 t2 : TypeId} {v1 v2 v3 : Value} {ad : Addr} (x1 : Boxed wr Bc t1 v1) (h1 : ¬ S Bc) (x2 : Boxed wr Bl t2 v2) (h2 : ¬ S Bl) (hc : ∀ W', Fr S wr W' → W'.cell? ad = some v3) (h : Fr S wr W') :
    W'.cell? ⟨Bc, 0, none⟩ = some v1 ∧ W'.cell? ⟨Bl, 0, none⟩ = some v2 ∧ W'.cell? ad = some v3 ∧ Fr S wr W' := ⟨(box_fr x1 h h1).cell, (box_fr x2 h h2).cell, hc W' h, h⟩
theorem pat_fr {P1 P2 P3 : Prop} {S : Nat → Prop} {w W : World} (h : P1 ∧ P2 ∧ P3 ∧ Fr S w W) : Fr S w W := h.2.2.2

set_option maxRecDepth 100000 in
set_option maxHeartbeats 8000000 in
theorem pchoose_calls {σ : Type} (ls : List Int) (A0 : Option Addr) (c0 : Nat) (S : Nat → Prop) (I : σ → World → Prop) (base : Nat) (w1 : World) (ge : Nat) (bde fre : Array Value) (step : σ → List Int × Int → σ)
    (Bl Be Bc : Nat) (hn : ls.length ≤ 10) (hpos : ∀ x ∈ ls, 1 ≤ x ∧ x ≤ 60) (T : Each ls.length S I base w1 ge bde fre step) (hb1 : base ≤ w1.heap.size) (hSl : ∀ k, S k → k < w1.heap.size)
    (hC : ∀ W, Fr S w1 W → Kd.C kInt W A0 ls.length ls) (hc0 : ls.length ≤ c0)
    (xl : Boxed w1 Bl 22 (.slice A0 ls.length c0)) (xe : Boxed w1 Be 56 (.func (.func ge) bde fre))
    (xc : Boxed w1 Bc 56 (.func (.func 90) #[] #[.pointer (some ⟨Bl, 0, none⟩), .pointer (some ⟨Be, 0, none⟩), .pointer (some ⟨Bc, 0, none⟩)]))
    (nl : ¬ S Bl) (ne : ¬ S Be) (nc : ¬ S Bc) :
    ∀ d s W v ch left, ch.length + d = ls.length → 0 ≤ left → left ≤ 60 → Fr S w1 W → I s W → Kd.R kInt 3 W base (fun k => ¬ S k) v ch →
      Calls Try.prog 90 #[v, .int .i64 left, .pointer (some ⟨Bl, 0, none⟩), .pointer (some ⟨Be, 0, none⟩), .pointer (some ⟨Bc, 0, none⟩)] W fun e w' => e = .returned (.tuple #[]) ∧ I ((patV (ls.drop ch.length) ch left).foldl step s) w' ∧ Fr S W w' := by
  intro d
  induction d with
  | zero =>
    intro s W v ch left hd hl0 hl6 hF hI hv
    have hp : patV (ls.drop ch.length) ch left = [(ch, left)] := by rw [List.drop_of_length_le (by omega)]; rfl
    rw [hp]
    obtain ⟨A1, c1, hv1, hc1, hC1⟩ := Kd.R_reads hv
    subst hv1
    have hz : (ch.length : Int) = (ls.length : Int) := by omega
    have hcall := T.each s W _ ch left hF hI hv (by omega) ⟨hl0, hl6⟩
    have HCALL := Aside0.mk hcall
    have q1 := (box_fr xl hF nl).cell
    have q2 := (box_fr xe hF ne).cell
    have ee := T.ee
    have hzb : ((ch.length : Int) == (ls.length : Int)) = true := by simpa using hz
    clear hcall hd hz hp hv hI hF hC1 xl xe xc T hC
    go_enter Try.func90, Try.ntmps90
    go_wp2_with (go_at_fn ge; refine HCALL.out.mono ?_; rintro e w2 ⟨rfl, hI2, hF2⟩)
    (try simp only [Exit.inBlock, Exit.then])
    refine bodyPost_ret (results_none rfl _ _ _) rfl ?_
    exact ⟨rfl, hI2, hF2⟩
  | succ d ih =>
    intro s W v ch left hd hl0 hl6 hF hI hv
    have hlt : ch.length < ls.length := by omega
    obtain ⟨x, hx⟩ : ∃ x, ls[ch.length] = x := ⟨_, rfl⟩
    have hxr : 1 ≤ x ∧ x ≤ 60 := hx ▸ hpos _ (List.getElem_mem hlt)
    obtain ⟨xs, hxs⟩ : ∃ xs, ls.drop (ch.length + 1) = xs := ⟨_, rfl⟩
    rw [show ls.drop ch.length = x :: xs by rw [List.drop_eq_getElem_cons hlt, hx, hxs], patV]
    obtain ⟨N, hN⟩ : ∃ N, (left / x + 1).toNat = N := ⟨_, rfl⟩
    rw [hN]
    have hNle : ∀ n : Nat, n < N ↔ (n : Int) * x ≤ left := fun n => by
      rw [← Int.le_ediv_iff_mul_le (by omega : 0 < x), ← hN]
      have : 0 ≤ left / x := Int.ediv_nonneg hl0 (by omega)
      omega
    generalize htotal : (restW (fun n => patV xs (ch ++ [(n : Int)]) (left - (n : Int) * x)) N 0).foldl step s = total
    obtain ⟨A1, c1, hv1, hc1, hC1⟩ := Kd.R_reads hv
    subst hv1
    obtain ⟨ad, had, _⟩ := Kd.at_int (hC W hF) (ch.length : Int) (by omega) (by omega)
    subst had
    have hcell : ∀ W', Fr S w1 W' → W'.cell? (ad.add ch.length) = some (.int .i64 x) := fun W' h => by
      obtain ⟨ad', he, h2⟩ := Kd.at_int (hC W' h) (ch.length : Int) (by omega) (by omega)
      injection he with he
      subst he
      rw [Int.toNat_natCast, rd, Int.toNat_natCast, List.getD_eq_getElem?_getD, List.getElem?_eq_getElem hlt] at h2
      rw [h2, ← hx]; rfl
    have hltz : (ch.length : Int) < (ls.length : Int) := by omega
    have h0z : (0 : Int) ≤ (ch.length : Int) := by omega
    have hzb : ((ch.length : Int) == (ls.length : Int)) = false := by simp; omega
    have HI := Aside0.mk hI
    have HV := Aside0.mk hv
    have HF := Aside0.mk hF
    have HC1 := Aside0.mk hC1
    have XL := Aside0.mk xl
    have XC := Aside0.mk xc
    have IH := Aside0.mk ih
    have HD := Aside0.mk hd
    have HNL := Aside0.mk hNle
    have HCELL := Aside0.mk hcell
    have HX := Aside0.mk hx
    have HXS := Aside0.mk hxs
    have HT := Aside0.mk htotal
    have q1 := (box_fr xl hF nl).cell
    clear hI hv hF hC1 xl xe xc ih hd hNle hcell hx hxs htotal hN hpos
    go_enter Try.func90, Try.ntmps90
    go_wp2_with fail
    clear q1
    go_loopg [8] N (fun gg s8 wr => ∃ n : Nat, s8 = .int .i64 (n : Int) ∧ n ≤ N ∧ N - n ≤ gg ∧ Aside0 (∃ st, I st wr ∧ (restW (fun n => patV xs (ch ++ [(n : Int)]) (left - (n : Int) * x)) (N - n) n).foldl step st = total) ∧ Aside0 (Fr S W wr))
    case atStart => exact ⟨0, rfl, by omega, by omega, ⟨s, HI.out, HT.out⟩, ⟨Fr.refl _ _⟩⟩
    case round =>
      obtain ⟨n, rfl, hnN, hgg, II, GG⟩ := hrel
      have FF := Aside0.mk (HF.out.trans GG.out)
      have q1 := (box_fr XL.out FF.out nl).cell
      have q2 := HCELL.out wr FF.out
      by_cases hlt2 : n < N
      · have hple := (HNL.out n).1 hlt2
        obtain ⟨p, hp⟩ : ∃ p, (n : Int) * x = p := ⟨_, rfl⟩
        have hp0 : 0 ≤ p := by rw [← hp]; exact Int.mul_nonneg (by omega) (by omega)
        rw [hp] at hple
        have hw1 : IntKind.i64.wrap ((n : Int) * x) = p := by rw [hp]; exact IntWalk.i64_in _ (by omega)
        obtain ⟨q, hq⟩ : ∃ q, left - p = q := ⟨_, rfl⟩
        have hw2 : IntKind.i64.wrap (left - p) = q := by rw [hq]; exact IntWalk.i64_in _ (by omega)
        have hqr : 0 ≤ q ∧ q ≤ 60 := by omega
        have hnb : n ≤ 60 := by
          have h1 : (n : Int) * 1 ≤ (n : Int) * x := Int.mul_le_mul_of_nonneg_left hxr.1 (by omega)
          omega
        have hwn : IntKind.i64.wrap ((n : Int) + 1) = ((n + 1 : Nat) : Int) := by rw [IntWalk.i64_in _ (by omega)]; omega
        obtain ⟨st, hst, hfold⟩ := II.out
        have HST := Aside0.mk hst
        have HFO := Aside0.mk hfold
        have XCR := Aside0.mk (box_fr XC.out FF.out nc)
        have XLR := Aside0.mk (box_fr XL.out FF.out nl)
        have HSR : Aside0 (∀ k, S k → k < wr.heap.size) := ⟨fun k hk => Nat.lt_of_lt_of_le (hSl k hk) FF.out.size⟩
        have HBR : Aside0 (base ≤ wr.heap.size) := ⟨Nat.le_trans hb1 FF.out.size⟩
        have HVr := Aside0.mk (R_fr HV.out GG.out (fun _ h => h))
        have HCr : Aside0 (∀ W', Fr S wr W' → Kd.C kInt W' A1 ch.length ch) := ⟨fun W' h => by
          obtain ⟨A', c', he, _, hC'⟩ := Kd.R_reads (R_fr HVr.out h (fun _ h => h))
          injection he with he1 he2 he3
          subst he1
          exact hC'⟩
        have HCW : Aside0 (∀ W', Fr S wr W' → W'.cell? (ad.add ch.length) = some (.int .i64 x)) := ⟨fun W' h => HCELL.out W' (FF.out.trans h)⟩
        have HP := Aside0.mk hp
        have HQ := Aside0.mk hq
        have hmix : Try.prog.follows .mixedOrders = true := by kernel_rfl
        clear II hst hfold hp hq
        go_wp2
        go_region_held3 (fun W' => W'.cell? ⟨Bc, 0, none⟩ = some (.func (.func 90) #[] #[.pointer (some ⟨Bl, 0, none⟩), .pointer (some ⟨Be, 0, none⟩), .pointer (some ⟨Bc, 0, none⟩)]) ∧ W'.cell? ⟨Bl, 0, none⟩ = some (.slice (some ad) ls.length c0) ∧ W'.cell? (ad.add ch.length) = some (.int .i64 x) ∧ Fr S wr W')
          (first | exact pat_keep XCR.out nc XLR.out nl HCW.out (Fr.drew (Fr.refl _ _)) | exact pat_keep XCR.out nc XLR.out nl HCW.out (by assumption) | exact pat_keep XCR.out nc XLR.out nl HCW.out (Fr.alloc (pat_fr (by assumption)) _))
          (first
            | (go_at_call 66; refine (clone_int A1 c1 ch _ ?hCl hc1 (by omega)).mono ?_;
                (case hCl => exact HCr.out _ (pat_fr (by assumption)));
                rintro e w6 ⟨v6, rfl, hR6, hb6⟩;
                have hfr6 : Fr S wr w6 := Fr.then (pat_fr (by assumption)) hb6;
                have hbl6 : Below wr.heap.size wr w6 := (by first | exact ((Below.refl _ wr).drew).trans (hb6.mono (Nat.le_refl _)) | exact ((((Below.refl _ wr).drew).alloc (Nat.le_refl _) _)).trans (hb6.mono (by simp)));
                have hRR := own_new (S := S) (wr := wr) (base := base) hR6 (by simp) HSR.out HBR.out)
            | (go_at_call 90; refine (IH.out st w7 v7 (ch ++ [(n : Int)]) q (by have := HD.out; simp; omega) hqr.1 hqr.2 (FF.out.trans hfr7) (T.st _ _ _ HST.out hbl7) (Kd.R_mono hR7 (fun _ h => h.1))).mono ?_; rintro e w8 ⟨rfl, hI8, hF8⟩;
                have hfr8 : Fr S wr w8 := hfr7.trans hF8)
            | (refine app_int (by rfl) _ _ _ base (fun k => ¬ S k ∧ wr.heap.size ≤ k) rfl v6 ch (n : Int) _ rfl rfl ?hcell ?hl ?HO ?hbase ?hfresh ?_;
                (case hcell => first | exact lit_cell _ _ _ | exact lit_cell2 hb6 | exact lit_cell3 hb6);
                (case hl => omega);
                (case HO => first | exact Kd.R_below hRR ((Below.refl _ _).alloc (Nat.le_refl _) _) | exact hRR);
                (case hbase => first | exact Nat.le_trans HBR.out hbl6.size | exact Nat.le_trans HBR.out (hbl6.alloc hbl6.size _).size);
                (case hfresh => first | exact fresh_ok HSR.out hbl6.size | exact fresh_ok HSR.out (hbl6.alloc hbl6.size _).size);
                intro v7 w7 hR7 hg7;
                have hrow : ∀ k, v6.ownBlock = some k → wr.heap.size ≤ k := fun k hk => (hRR.1 k hk).2;
                have hfr7 : Fr S wr w7 := Fr.grown (pat_fr (by assumption)) hg7 hrow;
                have hbl7 : Below wr.heap.size wr w7 := (by first | exact hbl6.grown hg7 hbl6.size hrow | exact (hbl6.alloc hbl6.size _).grown hg7 (hbl6.alloc hbl6.size _).size hrow)))
        all_goals
          go_wp2
          go_roundg (N - (n + 1))
          case measure => omega
          case rel =>
            refine ⟨n + 1, by go_num, by omega, by omega, ⟨_, hI8, ?_⟩, ⟨GG.out.trans hfr8⟩⟩
            rw [← HFO.out, show N - n = (N - (n + 1)) + 1 by omega, restW, List.foldl_append, List.length_append, List.length_singleton, HXS.out, ← HQ.out, ← HP.out]
      · have hple : ¬ (n : Int) * x ≤ left := fun h => hlt2 ((HNL.out n).2 h)
        have hw1 : IntKind.i64.wrap ((n : Int) * x) = (n : Int) * x := by
          have hnN2 : n = N := by omega
          have h1 : 0 ≤ (n : Int) * x := Int.mul_nonneg (by omega) (by omega)
          have h2 : (n : Int) * x ≤ left + x := by
            cases n with
            | zero => simp; omega
            | succ m =>
              have := (HNL.out m).1 (by omega)
              rw [show ((m + 1 : Nat) : Int) * x = (m : Int) * x + x by rw [show ((m + 1 : Nat) : Int) = (m : Int) + 1 by omega, Int.add_mul]; omega]
              omega
          exact IntWalk.i64_in _ (by omega)
        obtain ⟨st, hst, hfold⟩ := II.out
        rw [show N - n = 0 by omega] at hfold
        have HST := Aside0.mk hst
        have HFO := Aside0.mk hfold
        clear hst hfold II
        go_wp2
        go_end0
        refine ⟨rfl, ?_, GG.out⟩
        rw [← HFO.out]
        exact HST.out
end Go.Proofs.Ytfhaclkjiolmjaa.Q

namespace Go.Proofs.Ytfhaclkjiolmjaa.Q
open Go.RowKit Go.Shelf Go.Proofs.YtfhaclkjiolmjaaW.PrintWords Go.Proofs.YtfhaclkjiolmjaaW.PrintLast Go.Proofs.YtfhaclkjiolmjaaW.PrintMore
set_option linter.unusedVariables false
set_option linter.unusedSimpArgs false

theorem Each.later {σ : Type} {m : Nat} {S : Nat → Prop} {I : σ → World → Prop} {base : Nat} {w w1 : World} {ge : Nat} {bde fre : Array Value} {step : σ → List Int × Int → σ}
    (T : Each m S I base w ge bde fre step) (h : Fr S w w1) : Each m S I base w1 ge bde fre step :=
  ⟨T.ee, T.st, fun s W v ch left hF => T.each s W v ch left (h.trans hF)⟩

set_option maxRecDepth 100000 in
set_option maxHeartbeats 4000000 in
theorem patterns_calls {σ : Type} (ls : List Int) (A0 : Option Addr) (c0 : Nat) (rod : Int) (S : Nat → Prop) (I : σ → World → Prop) (base : Nat) (w : World) (ge : Nat) (bde fre : Array Value) (step : σ → List Int × Int → σ) (s : σ)
    (hn : ls.length ≤ 10) (hpos : ∀ x ∈ ls, 1 ≤ x ∧ x ≤ 60) (hrod : 0 ≤ rod ∧ rod ≤ 60) (T : Each ls.length S I base w ge bde fre step) (hb : base ≤ w.heap.size) (hSl : ∀ k, S k → k < w.heap.size)
    (hC : ∀ W, Fr S w W → Kd.C kInt W A0 ls.length ls) (hc0 : ls.length ≤ c0) (hI : I s w) :
    Calls Try.prog 57 #[.int .i64 rod, .slice A0 ls.length c0, .func (.func ge) bde fre] w fun e w' => e = .returned (.tuple #[]) ∧ I ((patV ls [] rod).foldl step s) w' ∧ Fr S w w' := by
  have x1 := Boxed.new w 22 (.slice A0 ls.length c0)
  obtain ⟨w1, e1⟩ : ∃ w1, w.alloc (.cells #[.slice A0 ls.length c0] 22) = w1 := ⟨_, rfl⟩
  have b1 : Below w.heap.size w w1 := by rw [← e1]; exact (Below.refl _ w).alloc (Nat.le_refl _) _
  rw [e1] at x1
  have x2 := Boxed.new w1 56 (.func (.func ge) bde fre)
  have y1 := x1.alloc (.cells #[.func (.func ge) bde fre] 56)
  obtain ⟨w2, e2⟩ : ∃ w2, w1.alloc (.cells #[.func (.func ge) bde fre] 56) = w2 := ⟨_, rfl⟩
  have b2 : Below w.heap.size w w2 := by rw [← e2]; exact b1.alloc b1.size _
  rw [e2] at x2 y1
  obtain ⟨fv, hfv⟩ : ∃ fv : Value, fv = .func (.func 90) #[] #[.pointer (some ⟨w.heap.size, 0, none⟩), .pointer (some ⟨w1.heap.size, 0, none⟩), .pointer (some ⟨w2.heap.size, 0, none⟩)] := ⟨_, rfl⟩
  have x3 := Boxed.new w2 56 fv
  have y2 := x2.alloc (.cells #[fv] 56)
  have u1 := y1.alloc (.cells #[fv] 56)
  obtain ⟨w3, e3⟩ : ∃ w3, w2.alloc (.cells #[fv] 56) = w3 := ⟨_, rfl⟩
  have b3 : Below w.heap.size w w3 := by rw [← e3]; exact b2.alloc b2.size _
  rw [e3] at x3 y2 u1
  have F3 : Fr S w w3 := Fr.of b3
  have nS : ∀ k, w.heap.size ≤ k → ¬ S k := fun k hk hs => by have := hSl k hs; omega
  have hcall := pchoose_calls ls A0 c0 S I base w3 ge bde fre step w.heap.size w1.heap.size w2.heap.size hn hpos (T.later F3) (Nat.le_trans hb b3.size) (fun k hk => Nat.lt_of_lt_of_le (hSl k hk) b3.size) (fun W h => hC W (F3.trans h)) hc0 u1 y2 (hfv ▸ x3) (nS _ (Nat.le_refl _)) (nS _ b1.size) (nS _ b2.size)
    ls.length s w3 (.slice none 0 0) [] rod (by simp) hrod.1 hrod.2 (Fr.refl _ _) (T.st _ _ _ hI b3) (Kd.R_nil _ _ _ _ _)
  simp only [List.length_nil, List.drop_zero] at hcall
  have HCALL := Aside0.mk hcall
  have q3 := x3.cell
  have HF3 := Aside0.mk F3
  clear hcall x1 x2 x3 y1 y2 u1 b1 b2 b3 T hC hI F3
  subst hfv
  go_enter Try.func57, Try.ntmps57
  go_wp2_with (go_at_call 90; refine HCALL.out.mono ?_; rintro e w5 ⟨rfl, hI5, hF5⟩)

  go_end0
  exact ⟨rfl, hI5, HF3.out.trans hF5⟩
end Go.Proofs.Ytfhaclkjiolmjaa.Q

namespace Go.Proofs.Ytfhaclkjiolmjaa.Q
open Go.RowKit Go.Proofs.YtfhaclkjiolmjaaW.PrintWords Go.Proofs.YtfhaclkjiolmjaaW.PrintLast Go.Proofs.YtfhaclkjiolmjaaW.PrintMore
attribute [local go_sem] max2_int min2_int max_two min_two max_three min_three max_four min_four   -- for this text's walks alone
set_option linter.unusedVariables false
set_option linter.unusedSimpArgs false

/-! ### impl_within: function 85 -/
def impl_within.f (a0 : Int) (a1 : Int) (a2 : Int) : Option (Bool) := if a1 ≤ a0 then (some (decide (a0 ≤ a2))) else (some false)
set_option maxHeartbeats 8000000 in
set_option maxRecDepth 100000 in
theorem impl_within.calls (a0 : Int) (a1 : Int) (a2 : Int) (r : Bool) (w : World) (h : impl_within.f a0 a1 a2 = some r) :
    Calls Try.prog 85 #[.int .i64 a0, .int .i64 a1, .int .i64 a2] w fun e w' => e = .returned (.bool r) ∧ Drawn0 w w' := by
  have H : (if a1 ≤ a0 then (some (decide (a0 ≤ a2))) else (some false)) = some r := h
  clear h
  by_cases c4 : a1 ≤ a0
  · rw [if_pos c4] at H
    have c4b0 : decide (a1 ≤ a0) = true := decide_eq_true c4
    clear c4
    obtain rfl := Option.some.inj H
    go_enter Try.func85, Try.ntmps85
    go_wp2
    go_ret
    exact ⟨by first | rfl | (simp; done) | (simp [*]; done), by repeat (first | exact Drawn0.refl _ | apply Drawn0.step)⟩
  · rw [if_neg c4] at H
    have c4b0 : decide (a1 ≤ a0) = false := decide_eq_false c4
    clear c4
    obtain rfl := Option.some.inj H
    go_enter Try.func85, Try.ntmps85
    go_wp2
    go_ret
    exact ⟨by first | rfl | (simp; done) | (simp [*]; done), by repeat (first | exact Drawn0.refl _ | apply Drawn0.step)⟩

end Go.Proofs.Ytfhaclkjiolmjaa.Q

namespace Go.Proofs.Ytfhaclkjiolmjaa.Q
open Go.RowKit Go.Proofs.YtfhaclkjiolmjaaW.PrintWords Go.Proofs.YtfhaclkjiolmjaaW.PrintLast Go.Proofs.YtfhaclkjiolmjaaW.PrintMore
set_option linter.unusedVariables false
set_option linter.unusedSimpArgs false

set_option maxHeartbeats 2000000 in
theorem index_int (g : Nat) (lb : Array Value) (p : Int → Bool) (eg : ∀ args w, (callFunc g args).run Try.prog w = .ok (.enter g args) w)
    (A : Option Addr) (c : Nat) (xs : List Int) (w : World) (hr : Kd.C (Kd.int .i64) w A xs.length xs) (hc : xs.length ≤ c) (hp : PredOk g lb (Value.int .i64) p w) :
    Calls Try.prog 103 #[.slice A xs.length c, .func (.func g) #[] lb] w fun e w' => e = .returned (.int .i64 (idxF p xs)) ∧ Below w.heap.size w w' := by
  have hn : xs.length ≤ 9223372036854775807 := hr.2.1
  have HR := Aside0.mk hr
  clear hr
  go_enter Try.func103, Try.ntmps103
  go_wp2
  go_loopg [5, 8] xs.length (fun gg _ s8 wr => ∃ kk : Nat, kk ≤ xs.length ∧ xs.length - kk ≤ gg ∧ s8 = .int .i64 kk ∧ Aside0 (Below w.heap.size w wr) ∧ Aside0 (∀ j (hj : j < xs.length), j < kk → p xs[j] = false))
  case atStart => exact ⟨0, Nat.zero_le _, by omega, rfl, ⟨Below.refl _ w⟩, ⟨fun j _ hj => absurd hj (Nat.not_lt_zero _)⟩⟩
  case round =>
    obtain ⟨kk, hkk, hg, rfl, BW, AA⟩ := hrel
    by_cases hlt : kk < xs.length
    · have hltz : (kk : Int) < (xs.length : Int) := by omega
      obtain ⟨ad, cs, e, _, hK, hcell⟩ := Kd.C_get HR.out 0 (kk : Int) (by omega) (by omega)
      have e2 : xs.getD (kk : Int).toNat 0 = xs[kk] := by simp [List.getD_eq_getElem?_getD, hlt]
      rw [e2] at hK
      have l1 : wr.cell? (ad.add kk) = some (.int .i64 xs[kk]) := by
        have h0 := hcell 0 (.int .i64 xs[kk]) (by rw [show cs = [Value.int .i64 xs[kk]] from hK]; rfl)
        rw [show (kk : Int).toNat * (Kd.int IntKind.i64).sz + 0 = kk by simp [Kd.int, Kd.scalar]] at h0
        exact (BW.out.cell (World.block_lt_of_cell? w _ h0)).trans h0
      have hcall := hp wr xs[kk] BW.out
      clear hK hcell e2
      subst e
      have hhit := fun h => idxF_hit p xs kk hlt h AA.out
      have HH : Aside0 (p xs[kk] = true → idxF p xs = kk) := ⟨hhit⟩
      clear hhit
      generalize hy : xs[kk] = y at l1 hcall HH
      have B : Aside0 (xs[kk] = y) := ⟨hy⟩
      clear hy
      cases hq : p y with
      | true =>
        rw [hq] at hcall
        go_wp2_with (go_at_fn g; refine hcall.mono ?_; rintro e w' ⟨rfl, hb'⟩)
        go_ret
        exact ⟨ret_int (HH.out hq).symm, BW.out.trans (hb'.mono BW.out.size)⟩
      | false =>
        rw [hq] at hcall
        go_wp2_with (go_at_fn g; refine hcall.mono ?_; rintro e w' ⟨rfl, hb'⟩)
        go_roundg (xs.length - (kk + 1))
        case measure => omega
        case rel =>
          refine ⟨kk + 1, by omega, by omega, by go_num, ⟨BW.out.trans (hb'.mono BW.out.size)⟩, ⟨fun j hj hlt2 => ?_⟩⟩
          by_cases e : j = kk
          · subst e
            rw [B.out]; exact hq
          · exact AA.out j hj (by omega)
    · have hltz : ¬ (kk : Int) < (xs.length : Int) := by omega
      have : kk = xs.length := by omega
      go_wp2
      go_ret
      exact ⟨ret_int (idxF_miss p xs (fun j hj => AA.out j hj (by omega))).symm, BW.out⟩

theorem contains_int (g : Nat) (lb : Array Value) (p : Int → Bool) (eg : ∀ args w, (callFunc g args).run Try.prog w = .ok (.enter g args) w)
    (A : Option Addr) (c : Nat) (xs : List Int) (w : World) (hr : Kd.C (Kd.int .i64) w A xs.length xs) (hc : xs.length ≤ c) (hp : PredOk g lb (Value.int .i64) p w) :
    Calls Try.prog 91 #[.slice A xs.length c, .func (.func g) #[] lb] w fun e w' => e = .returned (.bool (xs.any p)) ∧ Below w.heap.size w w' := by
  have hcon := index_int g lb p eg A c xs w hr hc hp
  have E := Aside0.mk (idxF_any p xs)
  clear hp hr
  generalize idxF p xs = r at hcon E
  go_enter Try.func91, Try.ntmps91
  go_wp2_with (go_at_call 103; refine hcon.mono ?_; rintro e w' ⟨rfl, hb'⟩)
  go_ret
  exact ⟨ret_bool E.out, hb'⟩

/-- 'areWithin': all numbers lie in low .. high. -/
def impl_areWithin.f (l0 : List Int) (a1 a2 : Int) : Option Bool := some (l0.all fun n => decide (a1 ≤ n) && decide (n ≤ a2))

theorem areWithin_pred (lo hi : Int) (b : Nat) (w : World) (h1 : w.cell? ⟨b, 0, none⟩ = some (.int .i64 lo)) (h2 : w.cell? ⟨b + 1, 0, none⟩ = some (.int .i64 hi)) :
    PredOk 92 #[.pointer (some ⟨b, 0, none⟩), .pointer (some ⟨b + 1, 0, none⟩)] (Value.int .i64) (fun n => !(decide (lo ≤ n) && decide (n ≤ hi))) w := fun W x hb => by
  have g1 : W.cell? ⟨b, 0, none⟩ = some (.int .i64 lo) := (hb.cell (World.block_lt_of_cell? w _ h1)).trans h1
  have g2 : W.cell? ⟨b + 1, 0, none⟩ = some (.int .i64 hi) := (hb.cell (World.block_lt_of_cell? w _ h2)).trans h2
  clear h1 h2 hb
  show Calls Try.prog 92 #[.int .i64 x, .pointer (some ⟨b, 0, none⟩), .pointer (some ⟨b + 1, 0, none⟩)] W _
  go_enter Try.func92, Try.ntmps92
  by_cases c1 : lo ≤ x
  · by_cases c2 : x ≤ hi
    · go_wp2
      go_ret
      exact ⟨by simp [c1, c2], Below.refl _ _⟩
    · go_wp2
      go_ret
      exact ⟨by simp [c1, c2], Below.refl _ _⟩
  · go_wp2
    go_ret
    exact ⟨by simp [c1], Below.refl _ _⟩

set_option maxHeartbeats 1000000 in
theorem impl_areWithin.calls (A0 : Option Addr) (c0 : Nat) (l0 : List Int) (a1 a2 : Int) (r : Bool) (w : World) (hr0 : Kd.C (Kd.int .i64) w A0 l0.length l0) (hc0 : l0.length ≤ c0) (h : impl_areWithin.f l0 a1 a2 = some r) :
    Calls Try.prog 68 #[.slice A0 l0.length c0, .int .i64 a1, .int .i64 a2] w fun e w' => e = .returned (.bool r) ∧ Below w.heap.size w w' := by
  have hbel : Below w.heap.size w ((w.alloc (.cells #[.int .i64 a1] 3)).alloc (.cells #[.int .i64 a2] 3)) := ((Below.refl _ w).alloc (Nat.le_refl _) _).alloc (by simp) _
  have hcon := contains_int 92 #[.pointer (some ⟨w.heap.size, 0, none⟩), .pointer (some ⟨w.heap.size + 1, 0, none⟩)] (fun n => !(decide (a1 ≤ n) && decide (n ≤ a2))) (enters_of Try.func92 (by kernel_rfl) rfl) A0 c0 l0 _ (Kd.C_below hr0 hbel) hc0 (areWithin_pred a1 a2 w.heap.size _ (by simp) (by simp))
  have E : Aside0 ((!l0.any fun n => !(decide (a1 ≤ n) && decide (n ≤ a2))) = r) := ⟨by
    injection h with h
    rw [← h, List.any_eq_not_all_not]
    simp⟩
  have HB := Aside0.mk hbel
  clear h hr0 hbel
  generalize (l0.any fun n => !(decide (a1 ≤ n) && decide (n ≤ a2))) = q at hcon E
  go_enter Try.func68, Try.ntmps68
  go_wp2_with (go_at_call 91; refine hcon.mono ?_; rintro e w' ⟨rfl, hb'⟩)
  go_ret
  exact ⟨ret_bool E.out, HB.out.trans (hb'.mono (by simp; omega))⟩
end Go.Proofs.Ytfhaclkjiolmjaa.Q

namespace Go.Proofs.Ytfhaclkjiolmjaa.Q
open Go.RowKit Go.Proofs.YtfhaclkjiolmjaaW.PrintWords Go.Proofs.YtfhaclkjiolmjaaW.PrintLast Go.Proofs.YtfhaclkjiolmjaaW.PrintMore
attribute [local go_sem] max2_int min2_int max_two min_two max_three min_three max_four min_four   -- for this text's walks alone
set_option linter.unusedVariables false
set_option linter.unusedSimpArgs false

/-! ### impl_AreLengths: function 46 -/
def impl_AreLengths.l0 : Nat → List Int → Int → Option (Bool)
  | 0, _, _ => none
  | k + 1, x0, x3 => if x3 < (x0.length : Int) then (if 0 ≤ x3 then (if 0 ≤ (wrap64 (x3 - 1)) then (if (wrap64 (x3 - 1)) < (x0.length : Int) then (if (rd x0 x3) ≤ (rd x0 (wrap64 (x3 - 1))) then (some false) else (impl_AreLengths.l0 k x0 (wrap64 (x3 + 1)))) else (none)) else (none)) else (none)) else ((impl_within.f (x0.length : Int) 1 4).bind fun t409 => (if t409 = true then ((impl_areWithin.f x0 1 60).bind fun t410 => (some t410)) else (some false)))
def impl_AreLengths.f (k : Nat) (l0 : List Int) : Option (Bool) := impl_AreLengths.l0 k l0 1
theorem impl_AreLengths.mono_l : ∀ k, (∀ y0 y1, LeO (impl_AreLengths.l0 k y0 y1) (impl_AreLengths.l0 (k + 1) y0 y1))
  | 0 => fun _ _ r h => by simp [impl_AreLengths.l0] at h
  | k + 1 => by
    have ih0 := impl_AreLengths.mono_l k
    · intro y0 y1
      unfold impl_AreLengths.l0
      repeat' first
      | (with_reducible exact ih0 _ _)
      | (with_reducible exact LeO.refl _)
      | (with_reducible exact LeO.none _)
      | (with_reducible refine LeO.ite ?_ ?_)
      | (with_reducible refine LeO.bind ?_ (fun _ => ?_))
      | exact ih0 _ _
      | exact LeO.none _
      | refine LeO.ite ?_ ?_
      | refine LeO.bind ?_ (fun _ => ?_)
theorem impl_AreLengths.mono : ∀ a0 k, LeO (impl_AreLengths.f k a0) (impl_AreLengths.f (k + 1) a0) := by
  intro a0 k
  have ih0 := impl_AreLengths.mono_l k
  unfold impl_AreLengths.f
  repeat' first
      | (with_reducible exact ih0 _ _)
      | (with_reducible exact LeO.refl _)
      | (with_reducible exact LeO.none _)
      | (with_reducible refine LeO.ite ?_ ?_)
      | (with_reducible refine LeO.bind ?_ (fun _ => ?_))
      | exact ih0 _ _
      | exact LeO.none _
      | refine LeO.ite ?_ ?_
      | refine LeO.bind ?_ (fun _ => ?_)
set_option maxHeartbeats 8000000 in
set_option maxRecDepth 100000 in
theorem impl_AreLengths.calls (k : Nat) (A0 : Option Addr) (c0 : Nat) (l0 : List Int) (r : Bool) (w : World) (hr0 : Kd.C (Kd.int .i64) w A0 l0.length l0) (hc0 : l0.length ≤ c0) (h : impl_AreLengths.f k l0 = some r) :
    Calls Try.prog 46 #[.slice A0 l0.length c0] w fun e w' => e = .returned (.bool r) ∧ Below w.heap.size w w' := by
  have HR0 := Aside0.mk hr0
  have HC0 := Aside0.mk hc0
  clear hr0 hc0
  have HB := Aside0.mk (Below.refl w.heap.size w)
  have H : (impl_AreLengths.l0 k l0 1) = some r := h
  clear h
  have H' := Aside0.mk H
  clear H
  go_enter Try.func46, Try.ntmps46
  go_wp2
  repeat (go_quiet (fail); try go_wp2)
  go_loopg [3] k (fun kq v3 w' => ∃ (x3_1 : Int), v3 = .int .i64 x3_1 ∧ Aside0 (impl_AreLengths.l0 kq l0 x3_1 = some r) ∧ Aside0 (kq ≤ k) ∧ Aside0 (Below w.heap.size w w'))
  case atStart => exact ⟨(1), (by first | rfl | (simp; done) | (simp [*]; done)), H', ⟨Nat.le_refl _⟩, ⟨by repeat (first | (with_reducible first | exact HB.out | apply below_alloc | apply pw_below_drewN | apply below_drew1) | exact HB.out)⟩⟩
  case round =>
    clear H'
    obtain ⟨x3_1, rfl, HA, HK1, HB⟩ := hrel
    cases gk with
    | zero => exact absurd HA.out (by simp [impl_AreLengths.l0])
    | succ k1 =>
      have H := HA.out
      clear HA
      simp only [impl_AreLengths.l0] at H
      by_cases c2 : x3_1 < (l0.length : Int)
      · rw [if_pos c2] at H
        have c2b0 : decide (x3_1 < (l0.length : Int)) = true := decide_eq_true c2
        clear c2
        by_cases c3 : 0 ≤ x3_1
        · rw [if_pos c3] at H
          have c3b0 : decide (0 ≤ x3_1) = true := decide_eq_true c3
          clear c3
          obtain ⟨ji4, hji4⟩ : ∃ j_ : Int, (wrap64 (x3_1 - 1)) = j_ := ⟨_, rfl⟩
          replace H : (if 0 ≤ (ji4) then (if (ji4) < (l0.length : Int) then (if (rd l0 x3_1) ≤ (rd l0 (ji4)) then (some false) else (impl_AreLengths.l0 k1 l0 (wrap64 (x3_1 + 1)))) else (none)) else (none)) = some r := by first | (rw [hji4] at H; exact H) | (simp only [hji4] at H ⊢; exact H)
          have hji4w : (IntKind.i64.wrap (x3_1 - 1)) = ji4 := (i64_w _).trans hji4
          by_cases c5 : 0 ≤ (ji4)
          · rw [if_pos c5] at H
            have c5b0 : decide (0 ≤ (ji4)) = true := decide_eq_true c5
            clear c5
            by_cases c6 : (ji4) < (l0.length : Int)
            · rw [if_pos c6] at H
              have c6b0 : decide ((ji4) < (l0.length : Int)) = true := decide_eq_true c6
              clear c6
              by_cases c7 : (rd l0 x3_1) ≤ (rd l0 (ji4))
              · rw [if_pos c7] at H
                have c7b0 : decide ((rd l0 x3_1) ≤ (rd l0 (ji4))) = true := decide_eq_true c7
                clear c7
                obtain rfl := Option.some.inj H
                have p407 : 0 ≤ (x3_1 : Int) := of_decide_eq_true (by first | (with_reducible assumption) | assumption)
                have q407 : x3_1 < (l0.length : Int) := of_decide_eq_true (by first | (with_reducible assumption) | assumption)
                obtain ⟨ad407, e407, hx407_0⟩ := Kd.at_int HR0.out x3_1 p407 q407
                cases e407
                replace hx407_0 := (HB.out.cell (World.block_lt_of_cell? w _ hx407_0)).trans hx407_0
                replace p407 := eq_true p407
                replace q407 := eq_true q407
                have p408 : 0 ≤ ((ji4) : Int) := of_decide_eq_true (by first | (with_reducible assumption) | assumption)
                have q408 : (ji4) < (l0.length : Int) := of_decide_eq_true (by first | (with_reducible assumption) | assumption)
                obtain ⟨ad408, e408, hx408_0⟩ := Kd.at_int HR0.out (ji4) p408 q408
                obtain rfl : ad407 = ad408 := (by injection e408)
                replace hx408_0 := (HB.out.cell (World.block_lt_of_cell? w _ hx408_0)).trans hx408_0
                replace p408 := eq_true p408
                replace q408 := eq_true q408
                go_wp2
                repeat (go_quiet (fail); try go_wp2)
                go_ret
                exact ⟨by first | rfl | (simp [errW_none, errW_some] <;> rfl) | (simp only [← hji4]; first | rfl | (simp [errW_none, errW_some] <;> rfl)) | (simp [*, errW_none, errW_some] <;> rfl), by repeat (first | (with_reducible first | exact HB.out | apply below_alloc | apply pw_below_drewN | apply below_drew1) | exact HB.out)⟩
              · rw [if_neg c7] at H
                have c7b0 : decide ((rd l0 x3_1) ≤ (rd l0 (ji4))) = false := decide_eq_false c7
                clear c7
                have H' := Aside0.mk H
                clear H
                have p407 : 0 ≤ (x3_1 : Int) := of_decide_eq_true (by first | (with_reducible assumption) | assumption)
                have q407 : x3_1 < (l0.length : Int) := of_decide_eq_true (by first | (with_reducible assumption) | assumption)
                obtain ⟨ad407, e407, hx407_0⟩ := Kd.at_int HR0.out x3_1 p407 q407
                cases e407
                replace hx407_0 := (HB.out.cell (World.block_lt_of_cell? w _ hx407_0)).trans hx407_0
                replace p407 := eq_true p407
                replace q407 := eq_true q407
                have p408 : 0 ≤ ((ji4) : Int) := of_decide_eq_true (by first | (with_reducible assumption) | assumption)
                have q408 : (ji4) < (l0.length : Int) := of_decide_eq_true (by first | (with_reducible assumption) | assumption)
                obtain ⟨ad408, e408, hx408_0⟩ := Kd.at_int HR0.out (ji4) p408 q408
                obtain rfl : ad407 = ad408 := (by injection e408)
                replace hx408_0 := (HB.out.cell (World.block_lt_of_cell? w _ hx408_0)).trans hx408_0
                replace p408 := eq_true p408
                replace q408 := eq_true q408
                go_wp2
                repeat (go_quiet (fail); try go_wp2)
                go_roundg k1
                case measure => have := HK1.out; omega
                case rel => exact ⟨(wrap64 (x3_1 + 1)), (by first | rfl | (simp; done) | (simp [*]; done)), H', ⟨by have := HK1.out; omega⟩, ⟨by repeat (first | (with_reducible first | exact HB.out | apply below_alloc | apply pw_below_drewN | apply below_drew1) | exact HB.out)⟩⟩
            · rw [if_neg c6] at H
              exact absurd H (by simp)
          · rw [if_neg c5] at H
            exact absurd H (by simp)
        · rw [if_neg c3] at H
          exact absurd H (by simp)
      · rw [if_neg c2] at H
        have c2b0 : decide (x3_1 < (l0.length : Int)) = false := decide_eq_false c2
        clear c2
        replace H := Option.bind_eq_some_iff.mp H
        obtain ⟨t409, A80, H⟩ := H
        replace H : (if t409 = true then ((impl_areWithin.f l0 1 60).bind fun t410 => (some t410)) else (some false)) = some r := H
        have A8 := Aside0.mk A80
        clear A80
        by_cases c9 : t409 = true
        · subst c9
          have H1 : ((impl_areWithin.f l0 1 60).bind fun t410 => (some t410)) = some r := by rw [if_pos rfl] at H; exact H
          clear H
          have H := H1
          clear H1
          replace H := Option.bind_eq_some_iff.mp H
          obtain ⟨t410, A100, H⟩ := H
          replace H : (some t410) = some r := H
          have A10 := Aside0.mk A100
          clear A100
          obtain rfl := Option.some.inj H
          go_wp2_with (first | (go_at_call 85; (with_reducible refine (impl_within.calls (l0.length : Int) 1 4 true _ A8.out).mono ?_); rintro e w' ⟨rfl, ⟨nd, rfl⟩⟩; (try first | exact ⟨rfl, _, World.drewN_drewN _ _ _⟩ | exact ⟨rfl, _, Eq.trans (World.drewN_drewN _ _ _) (congrArg (World.drewN _) (Nat.add_assoc _ _ _))⟩)) | (go_at_call 68; (with_reducible refine (impl_areWithin.calls _ _ l0 1 60 t410 _ ?side1 ?side2 A10.out).mono ?_); (case side1 => repeat (first | exact (Kd.C_below HR0.out (by repeat (first | (with_reducible first | exact HB.out | apply below_alloc | apply pw_below_drewN | apply below_drew1) | exact HB.out))) | (with_reducible refine Kd.C_alloc ?_ _) | (with_reducible refine Kd.C_drewN ?_ _) | (with_reducible refine Kd.C_drew ?_))); (case side2 => exact HC0.out); rintro e w11 ⟨rfl, hb⟩; have n0_ := Aside0.mk (below_step (by repeat (first | (with_reducible first | exact HB.out | apply below_alloc | apply pw_below_drewN | apply below_drew1) | exact HB.out)) hb); clear HB; have HB := n0_; clear n0_; (try clear hb); (try clear hb2); (try clear hk); (try clear hi)))
          repeat (go_quiet (first | (go_at_call 85; (with_reducible refine (impl_within.calls (l0.length : Int) 1 4 true _ A8.out).mono ?_); rintro e w' ⟨rfl, ⟨nd, rfl⟩⟩; (try first | exact ⟨rfl, _, World.drewN_drewN _ _ _⟩ | exact ⟨rfl, _, Eq.trans (World.drewN_drewN _ _ _) (congrArg (World.drewN _) (Nat.add_assoc _ _ _))⟩)) | (go_at_call 68; (with_reducible refine (impl_areWithin.calls _ _ l0 1 60 t410 _ ?side1 ?side2 A10.out).mono ?_); (case side1 => repeat (first | exact (Kd.C_below HR0.out (by repeat (first | (with_reducible first | exact HB.out | apply below_alloc | apply pw_below_drewN | apply below_drew1) | exact HB.out))) | (with_reducible refine Kd.C_alloc ?_ _) | (with_reducible refine Kd.C_drewN ?_ _) | (with_reducible refine Kd.C_drew ?_))); (case side2 => exact HC0.out); rintro e w11 ⟨rfl, hb⟩; have n0_ := Aside0.mk (below_step (by repeat (first | (with_reducible first | exact HB.out | apply below_alloc | apply pw_below_drewN | apply below_drew1) | exact HB.out)) hb); clear HB; have HB := n0_; clear n0_; (try clear hb); (try clear hb2); (try clear hk); (try clear hi))); try go_wp2_with (first | (go_at_call 85; (with_reducible refine (impl_within.calls (l0.length : Int) 1 4 true _ A8.out).mono ?_); rintro e w' ⟨rfl, ⟨nd, rfl⟩⟩; (try first | exact ⟨rfl, _, World.drewN_drewN _ _ _⟩ | exact ⟨rfl, _, Eq.trans (World.drewN_drewN _ _ _) (congrArg (World.drewN _) (Nat.add_assoc _ _ _))⟩)) | (go_at_call 68; (with_reducible refine (impl_areWithin.calls _ _ l0 1 60 t410 _ ?side1 ?side2 A10.out).mono ?_); (case side1 => repeat (first | exact (Kd.C_below HR0.out (by repeat (first | (with_reducible first | exact HB.out | apply below_alloc | apply pw_below_drewN | apply below_drew1) | exact HB.out))) | (with_reducible refine Kd.C_alloc ?_ _) | (with_reducible refine Kd.C_drewN ?_ _) | (with_reducible refine Kd.C_drew ?_))); (case side2 => exact HC0.out); rintro e w11 ⟨rfl, hb⟩; have n0_ := Aside0.mk (below_step (by repeat (first | (with_reducible first | exact HB.out | apply below_alloc | apply pw_below_drewN | apply below_drew1) | exact HB.out)) hb); clear HB; have HB := n0_; clear n0_; (try clear hb); (try clear hb2); (try clear hk); (try clear hi))))
          go_ret
          exact ⟨by first | rfl | (simp [errW_none, errW_some] <;> rfl) | (simp [*, errW_none, errW_some] <;> rfl), by repeat (first | (with_reducible first | exact HB.out | apply below_alloc | apply pw_below_drewN | apply below_drew1) | exact HB.out)⟩
        · replace c9 := Bool.eq_false_iff.mpr c9
          subst c9
          have H1 : (some false) = some r := by rw [if_neg (show ¬ (false = true) by decide)] at H; exact H
          clear H
          have H := H1
          clear H1
          obtain rfl := Option.some.inj H
          go_wp2_with (first | (go_at_call 85; (with_reducible refine (impl_within.calls (l0.length : Int) 1 4 false _ A8.out).mono ?_); rintro e w' ⟨rfl, ⟨nd, rfl⟩⟩; (try first | exact ⟨rfl, _, World.drewN_drewN _ _ _⟩ | exact ⟨rfl, _, Eq.trans (World.drewN_drewN _ _ _) (congrArg (World.drewN _) (Nat.add_assoc _ _ _))⟩)))
          repeat (go_quiet (first | (go_at_call 85; (with_reducible refine (impl_within.calls (l0.length : Int) 1 4 false _ A8.out).mono ?_); rintro e w' ⟨rfl, ⟨nd, rfl⟩⟩; (try first | exact ⟨rfl, _, World.drewN_drewN _ _ _⟩ | exact ⟨rfl, _, Eq.trans (World.drewN_drewN _ _ _) (congrArg (World.drewN _) (Nat.add_assoc _ _ _))⟩))); try go_wp2_with (first | (go_at_call 85; (with_reducible refine (impl_within.calls (l0.length : Int) 1 4 false _ A8.out).mono ?_); rintro e w' ⟨rfl, ⟨nd, rfl⟩⟩; (try first | exact ⟨rfl, _, World.drewN_drewN _ _ _⟩ | exact ⟨rfl, _, Eq.trans (World.drewN_drewN _ _ _) (congrArg (World.drewN _) (Nat.add_assoc _ _ _))⟩))))
          go_ret
          exact ⟨by first | rfl | (simp [errW_none, errW_some] <;> rfl) | (simp [*, errW_none, errW_some] <;> rfl), by repeat (first | (with_reducible first | exact HB.out | apply below_alloc | apply pw_below_drewN | apply below_drew1) | exact HB.out)⟩

end Go.Proofs.Ytfhaclkjiolmjaa.Q

namespace Go.Proofs.Ytfhaclkjiolmjaa.Q
open Go.RowKit Go.Proofs.YtfhaclkjiolmjaaW.PrintWords Go.Proofs.YtfhaclkjiolmjaaW.PrintLast Go.Proofs.YtfhaclkjiolmjaaW.PrintMore
attribute [local go_sem] max2_int min2_int max_two min_two max_three min_three max_four min_four   -- for this text's walks alone
set_option linter.unusedVariables false
set_option linter.unusedSimpArgs false

/-! ### impl_isRod: function 89 -/
def impl_isRod.f (a0 : Int) : Option (Bool) := (impl_within.f a0 1 60).bind fun t411 => (some t411)
set_option maxHeartbeats 8000000 in
set_option maxRecDepth 100000 in
theorem impl_isRod.calls (a0 : Int) (r : Bool) (w : World) (h : impl_isRod.f a0 = some r) :
    Calls Try.prog 89 #[.int .i64 a0] w fun e w' => e = .returned (.bool r) ∧ Drawn0 w w' := by
  have H : ((impl_within.f a0 1 60).bind fun t411 => (some t411)) = some r := h
  clear h
  replace H := Option.bind_eq_some_iff.mp H
  obtain ⟨t411, A20, H⟩ := H
  replace H : (some t411) = some r := H
  have A2 := Aside0.mk A20
  clear A20
  obtain rfl := Option.some.inj H
  go_enter Try.func89, Try.ntmps89
  go_wp2_with (first | ((with_reducible refine gate_callee (f := 85) rfl ?_); refine goesL_ (some 4) rfl rfl Try.func85 (by kernel_rfl) rfl #[.int .i64 a0, .int .i64 1, .int .i64 60] rfl (by (try simp only [List.map_toArray, List.map_cons, List.map_nil]); first | done | rfl | (simp only [List.length_drop, List.length_take]; rfl)) ?_; (with_reducible refine (impl_within.calls a0 1 60 t411 _ A2.out).mono ?_); rintro e w' ⟨rfl, ⟨nd, rfl⟩⟩; refine ⟨_, rfl, ?_⟩))
  go_ret
  exact ⟨by first | rfl | (simp; done) | (simp [*]; done), by repeat (first | exact Drawn0.refl _ | apply Drawn0.step)⟩

end Go.Proofs.Ytfhaclkjiolmjaa.Q

namespace Go.Proofs.Ytfhaclkjiolmjaa.Q
open Go.RowKit Go.Proofs.YtfhaclkjiolmjaaW.PrintWords Go.Proofs.YtfhaclkjiolmjaaW.PrintLast Go.Proofs.YtfhaclkjiolmjaaW.PrintMore
attribute [local go_sem] max2_int min2_int max_two min_two max_three min_three max_four min_four   -- for this text's walks alone
set_option linter.unusedVariables false
set_option linter.unusedSimpArgs false

/-! ### impl_areRod: function 56 -/
def impl_areRod.f (k : Nat) (a0 : Int) (l1 : List Int) : Option (Bool) := (impl_isRod.f a0).bind fun t412 => (if t412 = true then ((impl_AreLengths.f k l1).bind fun t413 => (some t413)) else (some false))
theorem impl_areRod.mono : ∀ a0 a1 k, LeO (impl_areRod.f k a0 a1) (impl_areRod.f (k + 1) a0 a1) := by
  intro a0 a1 k
  unfold impl_areRod.f
  repeat' first
      | (with_reducible exact impl_AreLengths.mono _ _)
      | (with_reducible exact LeO.refl _)
      | (with_reducible exact LeO.none _)
      | (with_reducible refine LeO.ite ?_ ?_)
      | (with_reducible refine LeO.bind ?_ (fun _ => ?_))
      | exact impl_AreLengths.mono _ _
      | exact LeO.none _
      | refine LeO.ite ?_ ?_
      | refine LeO.bind ?_ (fun _ => ?_)
set_option maxHeartbeats 8000000 in
set_option maxRecDepth 100000 in
theorem impl_areRod.calls (k : Nat) (a0 : Int) (A1 : Option Addr) (c1 : Nat) (l1 : List Int) (r : Bool) (w : World) (hr1 : Kd.C (Kd.int .i64) w A1 l1.length l1) (hc1 : l1.length ≤ c1) (h : impl_areRod.f k a0 l1 = some r) :
    Calls Try.prog 56 #[.int .i64 a0, .slice A1 l1.length c1] w fun e w' => e = .returned (.bool r) ∧ Below w.heap.size w w' := by
  have HR1 := Aside0.mk hr1
  have HC1 := Aside0.mk hc1
  clear hr1 hc1
  have HB := Aside0.mk (Below.refl w.heap.size w)
  have H : ((impl_isRod.f a0).bind fun t412 => (if t412 = true then ((impl_AreLengths.f k l1).bind fun t413 => (some t413)) else (some false))) = some r := h
  clear h
  replace H := Option.bind_eq_some_iff.mp H
  obtain ⟨t412, A30, H⟩ := H
  replace H : (if t412 = true then ((impl_AreLengths.f k l1).bind fun t413 => (some t413)) else (some false)) = some r := H
  have A3 := Aside0.mk A30
  clear A30
  by_cases c4 : t412 = true
  · subst c4
    have H1 : ((impl_AreLengths.f k l1).bind fun t413 => (some t413)) = some r := by rw [if_pos rfl] at H; exact H
    clear H
    have H := H1
    clear H1
    replace H := Option.bind_eq_some_iff.mp H
    obtain ⟨t413, A50, H⟩ := H
    replace H : (some t413) = some r := H
    have A5 := Aside0.mk A50
    clear A50
    obtain rfl := Option.some.inj H
    go_enter Try.func56, Try.ntmps56
    go_wp2_with (first | ((with_reducible refine gate_callee (f := 89) rfl ?_); refine goesL_ (some 6) rfl rfl Try.func89 (by kernel_rfl) rfl #[.int .i64 a0] rfl (by (try simp only [List.map_toArray, List.map_cons, List.map_nil]); first | done | rfl | (simp only [List.length_drop, List.length_take]; rfl)) ?_; (with_reducible refine (impl_isRod.calls a0 true _ A3.out).mono ?_); rintro e w' ⟨rfl, ⟨nd, rfl⟩⟩; refine ⟨_, rfl, ?_⟩) | (go_at_call 46; (with_reducible refine (impl_AreLengths.calls k _ _ l1 t413 _ ?side1 ?side2 A5.out).mono ?_); (case side1 => repeat (first | exact HR1.out | (with_reducible refine Kd.C_alloc ?_ _) | (with_reducible refine Kd.C_drewN ?_ _) | (with_reducible refine Kd.C_drew ?_))); (case side2 => exact HC1.out); rintro e w6 ⟨rfl, hb⟩; have n0_ := Aside0.mk (below_step (by repeat (first | (with_reducible first | exact HB.out | apply below_alloc | apply pw_below_drewN | apply below_drew1) | exact HB.out)) hb); clear HB; have HB := n0_; clear n0_; (try clear hb); (try clear hb2); (try clear hk); (try clear hi)))
    go_ret
    exact ⟨by first | rfl | (simp [errW_none, errW_some] <;> rfl) | (simp [*, errW_none, errW_some] <;> rfl), by repeat (first | (with_reducible first | exact HB.out | apply below_alloc | apply pw_below_drewN | apply below_drew1) | exact HB.out)⟩
  · replace c4 := Bool.eq_false_iff.mpr c4
    subst c4
    have H1 : (some false) = some r := by rw [if_neg (show ¬ (false = true) by decide)] at H; exact H
    clear H
    have H := H1
    clear H1
    obtain rfl := Option.some.inj H
    go_enter Try.func56, Try.ntmps56
    go_wp2_with (first | ((with_reducible refine gate_callee (f := 89) rfl ?_); refine goesL_ (some 6) rfl rfl Try.func89 (by kernel_rfl) rfl #[.int .i64 a0] rfl (by (try simp only [List.map_toArray, List.map_cons, List.map_nil]); first | done | rfl | (simp only [List.length_drop, List.length_take]; rfl)) ?_; (with_reducible refine (impl_isRod.calls a0 false _ A3.out).mono ?_); rintro e w' ⟨rfl, ⟨nd, rfl⟩⟩; refine ⟨_, rfl, ?_⟩))
    go_ret
    exact ⟨by first | rfl | (simp [errW_none, errW_some] <;> rfl) | (simp [*, errW_none, errW_some] <;> rfl), by repeat (first | (with_reducible first | exact HB.out | apply below_alloc | apply pw_below_drewN | apply below_drew1) | exact HB.out)⟩

end Go.Proofs.Ytfhaclkjiolmjaa.Q

namespace Go.Proofs.Ytfhaclkjiolmjaa.Q
open Go.RowKit Go.Shelf Go.Proofs.YtfhaclkjiolmjaaW.PrintWords Go.Proofs.YtfhaclkjiolmjaaW.PrintLast Go.Proofs.YtfhaclkjiolmjaaW.PrintMore
set_option linter.unusedVariables false
set_option linter.unusedSimpArgs false

abbrev Least := Int × List Int
def leastStep (s : Least) (p : List Int × Int) : Least := if p.2 < s.1 then (p.2, p.1) else s
/-- The two variables of LeastWaste. -/
def LeastV (base Bl Bb : Nat) (s : Least) (W : World) : Prop :=
  Boxed W Bl 3 (.int .i64 s.1) ∧ ∃ v, Boxed W Bb 22 v ∧ Kd.R kInt 3 W base (fun k => ¬ (k = Bl ∨ k = Bb)) v s.2
theorem LeastV.later {base Bl Bb : Nat} {s : Least} {W W' : World} (h : LeastV base Bl Bb s W) (hb : Below W.heap.size W W') : LeastV base Bl Bb s W' := by
  obtain ⟨h1, v, h2, h3⟩ := h
  exact ⟨box_below h1 hb, v, box_below h2 hb, Kd.R_below h3 hb⟩
set_option maxRecDepth 100000 in
set_option maxHeartbeats 4000000 in
theorem least1_calls (base Bl Bb : Nat) (hne : Bl ≠ Bb) (s : Least) (W : World) (v : Value) (ch : List Int) (left : Int) (hI : LeastV base Bl Bb s W) (hv : Kd.R kInt 3 W base (fun k => ¬ (k = Bl ∨ k = Bb)) v ch) :
    Calls Try.prog 58 #[v, .int .i64 left, .pointer (some ⟨Bl, 0, none⟩), .pointer (some ⟨Bb, 0, none⟩)] W
      fun e w' => e = .returned (.tuple #[]) ∧ LeastV base Bl Bb (leastStep s (ch, left)) w' ∧ Fr (fun k => k = Bl ∨ k = Bb) W w' := by
  obtain ⟨A1, c1, hv1, hc1, hC1⟩ := Kd.R_reads hv
  subst hv1
  obtain ⟨b, bl⟩ := s
  have HI := Aside0.mk hI
  have HV := Aside0.mk hv
  obtain ⟨xl, vb, xb, xr⟩ := hI
  have ql := xl.cell
  have fl := xl.frozen
  have qb := xb.cell
  have fb := xb.frozen
  have hne2 := Ne.symm hne
  have XL := Aside0.mk xl
  have XB := Aside0.mk xb
  clear xl xb xr hv hC1
  simp only at ql
  by_cases h : left < b
  · go_enter Try.func58, Try.ntmps58
    go_wp2
    go_end0
    have hF : Fr (fun k => k = Bl ∨ k = Bb) W ((W.setCell ⟨Bl, 0, none⟩ (.int .i64 left)).setCell ⟨Bb, 0, none⟩ (.slice A1 ch.length c1)) :=
      ((Fr.refl _ W).set _ _ (.inl (.inl rfl))).set _ _ (.inl (.inr rfl))
    refine ⟨rfl, ?_, hF⟩
    unfold leastStep
    rw [if_pos h]
    exact ⟨(XL.out.set _).other hne _, _, (XB.out.other hne2 _).set _, R_fr HV.out hF (fun _ h => h)⟩
  · have H := Aside0.mk h
    go_enter Try.func58, Try.ntmps58
    go_wp2
    go_end0
    refine ⟨rfl, ?_, Fr.refl _ _⟩
    unfold leastStep
    rw [if_neg (Int.not_lt.mpr H.out)]
    exact HI.out

/-- Is a rod short, and are the lengths few and short? -/
def shortB (a0 : Int) (l : List Int) : Bool := decide (0 ≤ a0) && decide (a0 ≤ 60) && decide (l.length ≤ 10) && l.all fun x => decide (1 ≤ x) && decide (x ≤ 60)
def leastV (rod : Int) (ls : List Int) : Least := (patV ls [] rod).foldl leastStep (wrap64 (rod + 1), [])
def impl_LeastWaste.fk (k : Nat) (a0 : Int) (l1 : List Int) : Option (Int × List Int × Bool) :=
  (impl_areRod.f k a0 l1).bind fun t => if t = true then (if shortB a0 l1 = true then some ((leastV a0 l1).1, (leastV a0 l1).2, true) else none) else some (0, [], false)
theorem shortB_of {a0 : Int} {l : List Int} (h : shortB a0 l = true) : (0 ≤ a0 ∧ a0 ≤ 60) ∧ l.length ≤ 10 ∧ ∀ x ∈ l, 1 ≤ x ∧ x ≤ 60 := by
  unfold shortB at h
  simp only [Bool.and_eq_true, decide_eq_true_eq, List.all_eq_true] at h
  exact ⟨h.1.1, h.1.2, h.2⟩
set_option maxRecDepth 100000 in
set_option maxHeartbeats 4000000 in
theorem impl_LeastWaste.calls0 (k : Nat) (a0 : Int) (A1 : Option Addr) (c1 : Nat) (l1 : List Int) (r1 : Int) (r2 : List Int) (r3 : Bool) (w : World) (hr1 : Kd.C kInt w A1 l1.length l1) (hc1 : l1.length ≤ c1) (h : impl_LeastWaste.fk k a0 l1 = some (r1, r2, r3)) :
    Calls Try.prog 12 #[.int .i64 a0, .slice A1 l1.length c1] w fun e w' => ∃ v0_ : Value, e = .returned (.tuple #[.int .i64 r1, v0_, .bool r3]) ∧ Kd.R kInt 3 w' w.heap.size (fun _ => True) v0_ r2 ∧ Below w.heap.size w w' := by
  unfold impl_LeastWaste.fk at h
  obtain ⟨t, ht, h⟩ := Option.bind_eq_some_iff.mp h
  have hrod := impl_areRod.calls k a0 A1 c1 l1 t w hr1 hc1 ht
  have HROD := Aside0.mk hrod
  have HR := Aside0.mk hr1
  clear hrod hr1 ht
  cases t with
  | false =>
    have hr : (0 : Int) = r1 ∧ [] = r2 ∧ false = r3 := by simpa using h
    obtain ⟨rfl, rfl, rfl⟩ := hr
    clear h
    go_enter Try.func12, Try.ntmps12
    go_wp2_with (go_at_call 56; refine HROD.out.mono ?_; rintro e w2 ⟨rfl, hb⟩)
    go_ret3
    exact ⟨_, rfl, Kd.R_nil _ _ _ _ _, hb⟩
  | true =>
    by_cases hs : shortB a0 l1 = true
    case neg => rw [if_pos rfl, if_neg hs] at h; cases h
    rw [if_pos rfl, if_pos hs] at h
    have hr : (leastV a0 l1).1 = r1 ∧ (leastV a0 l1).2 = r2 ∧ true = r3 := by simpa using h
    obtain ⟨h1, h2, rfl⟩ := hr
    have HH := Aside0.mk (And.intro h1 h2)
    have HSH := Aside0.mk (shortB_of hs)
    clear h h1 h2 hs
    go_enter Try.func12, Try.ntmps12
    go_wp2_with (go_at_call 56; refine HROD.out.mono ?_; rintro e w2 ⟨rfl, hb⟩; have B2 := Aside0.mk hb; clear hb)
    have x1 := (Boxed.new w2 3 (.int .i64 (wrap64 (a0 + 1)))).alloc (.cells #[.slice none 0 0] 22)
    have x2 := Boxed.new (w2.alloc (.cells #[.int .i64 (wrap64 (a0 + 1))] 3)) 22 (.slice none 0 0)
    have b4 : Below w.heap.size w ((w2.alloc (.cells #[.int .i64 (wrap64 (a0 + 1))] 3)).alloc (.cells #[.slice none 0 0] 22)) :=
      (B2.out.alloc B2.out.size _).alloc (B2.out.alloc B2.out.size _).size _
    have z4 : ((w2.alloc (.cells #[.int .i64 (wrap64 (a0 + 1))] 3)).alloc (.cells #[.slice none 0 0] 22)).heap.size = w2.heap.size + 1 + 1 := by simp
    rw [show (w2.alloc (.cells #[.int .i64 (wrap64 (a0 + 1))] 3)).heap.size = w2.heap.size + 1 by simp] at x2
    generalize (w2.alloc (.cells #[.int .i64 (wrap64 (a0 + 1))] 3)).alloc (.cells #[.slice none 0 0] 22) = W4 at x1 x2 b4 z4 ⊢
    have hw2 : w.heap.size ≤ w2.heap.size := B2.out.size
    have T : Each l1.length (fun k => k = w2.heap.size ∨ k = w2.heap.size + 1) (LeastV w.heap.size w2.heap.size (w2.heap.size + 1)) w.heap.size W4 58 #[] #[.pointer (some ⟨w2.heap.size, 0, none⟩), .pointer (some ⟨w2.heap.size + 1, 0, none⟩)] leastStep :=
      ⟨enters_of Try.func58 (by kernel_rfl) rfl, fun s W W' h hb => h.later hb, fun s W v ch left hF hI hv _ _ => least1_calls w.heap.size w2.heap.size (w2.heap.size + 1) (by omega) s W v ch left hI hv⟩
    have hcall := patterns_calls l1 A1 c1 a0 (fun k => k = w2.heap.size ∨ k = w2.heap.size + 1) (LeastV w.heap.size w2.heap.size (w2.heap.size + 1)) w.heap.size W4 58 #[] #[.pointer (some ⟨w2.heap.size, 0, none⟩), .pointer (some ⟨w2.heap.size + 1, 0, none⟩)] leastStep (wrap64 (a0 + 1), [])
      HSH.out.2.1 HSH.out.2.2 HSH.out.1 T b4.size (fun k hk => by omega) (fun W hF => Kd.C_below HR.out (b4.trans (hF.below (fun k hk => by omega) b4.size))) hc1 ⟨x1, _, x2, Kd.R_nil _ _ _ _ _⟩
    have hfold : (patV l1 [] a0).foldl leastStep (wrap64 (a0 + 1), []) = (r1, r2) := Prod.ext HH.out.1 HH.out.2
    rw [hfold] at hcall
    have HCALL := Aside0.mk hcall
    have B4 := Aside0.mk b4
    clear hcall hfold T x1 x2 b4
    go_wp2_with (go_at_call 57; refine HCALL.out.mono ?_; rintro e w5 ⟨rfl, hI5, hF5⟩; obtain ⟨xl, vb, xb, xr⟩ := hI5; have ql := xl.cell; have qb := xb.cell; have XR := Aside0.mk xr; have F5 := Aside0.mk hF5; clear xl xb xr hF5)
    go_quiet (fail)
    go_wp2
    go_ret3
    have hb5 : Below w.heap.size w w5 := B4.out.trans (F5.out.below (fun k hk => by omega) B4.out.size)
    exact ⟨_, rfl, Kd.R_mono (Kd.R_below XR.out (pw_below_drewN (Below.refl _ _) nq)) (fun _ _ => trivial), pw_below_drewN hb5 nq⟩
def impl_LeastWaste.f (a0 : Int) (l1 : List Int) : Option (Int × List Int × Bool) := impl_LeastWaste.fk (l1.length + 1) a0 l1
theorem impl_LeastWaste.calls (a0 : Int) (A1 : Option Addr) (c1 : Nat) (l1 : List Int) (r1 : Int) (r2 : List Int) (r3 : Bool) (w : World) (hr1 : Kd.C kInt w A1 l1.length l1) (hc1 : l1.length ≤ c1) (h : impl_LeastWaste.f a0 l1 = some (r1, r2, r3)) :
    Calls Try.prog 12 #[.int .i64 a0, .slice A1 l1.length c1] w fun e w' => ∃ v0_ : Value, e = .returned (.tuple #[.int .i64 r1, v0_, .bool r3]) ∧ Kd.R kInt 3 w' w.heap.size (fun _ => True) v0_ r2 ∧ Below w.heap.size w w' :=
  impl_LeastWaste.calls0 _ a0 A1 c1 l1 r1 r2 r3 w hr1 hc1 h
end Go.Proofs.Ytfhaclkjiolmjaa.Q

namespace Go.Proofs.Ytfhaclkjiolmjaa.Q
open Go.RowKit Go.Proofs.YtfhaclkjiolmjaaW.PrintWords Go.Proofs.YtfhaclkjiolmjaaW.PrintLast Go.Proofs.YtfhaclkjiolmjaaW.PrintMore
attribute [local go_sem] max2_int min2_int max_two min_two max_three min_three max_four min_four   -- for this text's walks alone
set_option linter.unusedVariables false
set_option linter.unusedSimpArgs false

/-! ### laws_FnExactLeastWaste: function 3 -/
mutual
def laws_FnExactLeastWaste.j0 : Nat → Int → List Int → Int → List Int → Bool → List Int → Int → List Int → Bool → Bool → Option (Bool)
  | 0, _, _, _, _, _, _, _, _, _, _ => none
  | k + 1, x0, x1, x5, x6, x7, x8, x9, x10, x11, x51 => if x51 = true then (some false) else ((laws_toIntS.f k x1).bind fun t157 => ((laws_eqIntS.f k x8 t157).bind fun t160 => (if t160 = true then ((laws_markIntS.f k x8 1).bind fun bt161 => (if bt161.1 < 0 then (laws_FnExactLeastWaste.j1 k x0 x1 x5 x6 x7 x10 true) else (if x9 = x5 then ((laws_eqIntS.f k x10 x6).bind fun t163 => (if t163 = true then (laws_FnExactLeastWaste.j1 k x0 x1 x5 x6 x7 x10 (x11 != x7)) else (laws_FnExactLeastWaste.j1 k x0 x1 x5 x6 x7 x10 true))) else (laws_FnExactLeastWaste.j1 k x0 x1 x5 x6 x7 x10 true)))) else (some false))))
def laws_FnExactLeastWaste.j1 : Nat → Int → List Int → Int → List Int → Bool → List Int → Bool → Option (Bool)
  | 0, _, _, _, _, _, _, _ => none
  | k + 1, x0, x1, x5, x6, x7, x10, x77 => if x77 = true then (some false) else ((laws_markIntS.f k x10 1).bind fun bt164 => ((laws_heldIntS.f k bt164.2 1).bind fun t166 => (if t166 < 0 then (some false) else (if t166 = bt164.1 then ((laws_toIntS.f k x1).bind fun t167 => ((impl_LeastWaste.f x0 t167).bind fun bt170 => (if bt170.1 = x5 then ((laws_eqIntS.f k bt170.2.1 x6).bind fun t175 => (if t175 = true then (laws_FnExactLeastWaste.j2 k bt164.2 bt164.1 (bt170.2.2 != x7)) else (laws_FnExactLeastWaste.j2 k bt164.2 bt164.1 true))) else (laws_FnExactLeastWaste.j2 k bt164.2 bt164.1 true)))) else (some false)))))
def laws_FnExactLeastWaste.j2 : Nat → List Int → Int → Bool → Option (Bool)
  | 0, _, _, _ => none
  | k + 1, x10, x13, x110 => if x110 = true then (some false) else ((laws_heldIntS.f k x10 1).bind fun t176 => (if t176 < 0 then (some false) else (if t176 = x13 then (some true) else (some false))))
end
def laws_FnExactLeastWaste.f (k : Nat) (a0 : Int) (l1 : List Int) : Option (Bool) := if (l1.length : Int) > 1048576 then (some true) else ((laws_toIntS.f k l1).bind fun t140 => ((spec_LeastWaste.f k a0 t140).bind fun bt143 => ((laws_toIntS.f k l1).bind fun t148 => ((impl_LeastWaste.f a0 t148).bind fun bt151 => (if bt151.1 = bt143.1 then ((laws_eqIntS.f k bt151.2.1 bt143.2.1).bind fun t156 => (if t156 = true then (laws_FnExactLeastWaste.j0 k a0 l1 bt143.1 bt143.2.1 bt143.2.2 t148 bt151.1 bt151.2.1 bt151.2.2 (bt151.2.2 != bt143.2.2)) else (laws_FnExactLeastWaste.j0 k a0 l1 bt143.1 bt143.2.1 bt143.2.2 t148 bt151.1 bt151.2.1 bt151.2.2 true))) else (laws_FnExactLeastWaste.j0 k a0 l1 bt143.1 bt143.2.1 bt143.2.2 t148 bt151.1 bt151.2.1 bt151.2.2 true))))))
theorem laws_FnExactLeastWaste.mono_l : ∀ k, (∀ y0 y1 y2 y3 y4 y5 y6 y7 y8 y9, LeO (laws_FnExactLeastWaste.j0 k y0 y1 y2 y3 y4 y5 y6 y7 y8 y9) (laws_FnExactLeastWaste.j0 (k + 1) y0 y1 y2 y3 y4 y5 y6 y7 y8 y9)) ∧ (∀ y0 y1 y2 y3 y4 y5 y6, LeO (laws_FnExactLeastWaste.j1 k y0 y1 y2 y3 y4 y5 y6) (laws_FnExactLeastWaste.j1 (k + 1) y0 y1 y2 y3 y4 y5 y6)) ∧ (∀ y0 y1 y2, LeO (laws_FnExactLeastWaste.j2 k y0 y1 y2) (laws_FnExactLeastWaste.j2 (k + 1) y0 y1 y2))
  | 0 => ⟨fun _ _ _ _ _ _ _ _ _ _ r h => by simp [laws_FnExactLeastWaste.j0] at h, fun _ _ _ _ _ _ _ r h => by simp [laws_FnExactLeastWaste.j1] at h, fun _ _ _ r h => by simp [laws_FnExactLeastWaste.j2] at h⟩
  | k + 1 => by
    obtain ⟨ih0, ih1, ih2⟩ := laws_FnExactLeastWaste.mono_l k
    refine ⟨?_, ?_, ?_⟩
    · intro y0 y1 y2 y3 y4 y5 y6 y7 y8 y9
      unfold laws_FnExactLeastWaste.j0
      repeat' first
      | (with_reducible exact ih0 _ _ _ _ _ _ _ _ _ _)
      | (with_reducible exact ih1 _ _ _ _ _ _ _)
      | (with_reducible exact ih2 _ _ _)
      | (with_reducible exact laws_eqIntS.mono _ _ _)
      | (with_reducible exact laws_heldIntS.mono _ _ _)
      | (with_reducible exact laws_markIntS.mono _ _ _)
      | (with_reducible exact laws_toIntS.mono _ _)
      | (with_reducible exact spec_LeastWaste.mono _ _ _)
      | (with_reducible exact LeO.refl _)
      | (with_reducible exact LeO.none _)
      | (with_reducible refine LeO.ite ?_ ?_)
      | (with_reducible refine LeO.bind ?_ (fun _ => ?_))
      | exact ih0 _ _ _ _ _ _ _ _ _ _
      | exact ih1 _ _ _ _ _ _ _
      | exact ih2 _ _ _
      | exact laws_eqIntS.mono _ _ _
      | exact laws_heldIntS.mono _ _ _
      | exact laws_markIntS.mono _ _ _
      | exact laws_toIntS.mono _ _
      | exact spec_LeastWaste.mono _ _ _
      | exact LeO.none _
      | refine LeO.ite ?_ ?_
      | refine LeO.bind ?_ (fun _ => ?_)
    · intro y0 y1 y2 y3 y4 y5 y6
      unfold laws_FnExactLeastWaste.j1
      repeat' first
      | (with_reducible exact ih0 _ _ _ _ _ _ _ _ _ _)
      | (with_reducible exact ih1 _ _ _ _ _ _ _)
      | (with_reducible exact ih2 _ _ _)
      | (with_reducible exact laws_eqIntS.mono _ _ _)
      | (with_reducible exact laws_heldIntS.mono _ _ _)
      | (with_reducible exact laws_markIntS.mono _ _ _)
      | (with_reducible exact laws_toIntS.mono _ _)
      | (with_reducible exact spec_LeastWaste.mono _ _ _)
      | (with_reducible exact LeO.refl _)
      | (with_reducible exact LeO.none _)
      | (with_reducible refine LeO.ite ?_ ?_)
      | (with_reducible refine LeO.bind ?_ (fun _ => ?_))
      | exact ih0 _ _ _ _ _ _ _ _ _ _
      | exact ih1 _ _ _ _ _ _ _
      | exact ih2 _ _ _
      | exact laws_eqIntS.mono _ _ _
      | exact laws_heldIntS.mono _ _ _
      | exact laws_markIntS.mono _ _ _
      | exact laws_toIntS.mono _ _
      | exact spec_LeastWaste.mono _ _ _
      | exact LeO.none _
      | refine LeO.ite ?_ ?_
      | refine LeO.bind ?_ (fun _ => ?_)
    · intro y0 y1 y2
      unfold laws_FnExactLeastWaste.j2
      repeat' first
      | (with_reducible exact ih0 _ _ _ _ _ _ _ _ _ _)
      | (with_reducible exact ih1 _ _ _ _ _ _ _)
      | (with_reducible exact ih2 _ _ _)
      | (with_reducible exact laws_eqIntS.mono _ _ _)
      | (with_reducible exact laws_heldIntS.mono _ _ _)
      | (with_reducible exact laws_markIntS.mono _ _ _)
      | (with_reducible exact laws_toIntS.mono _ _)
      | (with_reducible exact spec_LeastWaste.mono _ _ _)
      | (with_reducible exact LeO.refl _)
      | (with_reducible exact LeO.none _)
      | (with_reducible refine LeO.ite ?_ ?_)
      | (with_reducible refine LeO.bind ?_ (fun _ => ?_))
      | exact ih0 _ _ _ _ _ _ _ _ _ _
      | exact ih1 _ _ _ _ _ _ _
      | exact ih2 _ _ _
      | exact laws_eqIntS.mono _ _ _
      | exact laws_heldIntS.mono _ _ _
      | exact laws_markIntS.mono _ _ _
      | exact laws_toIntS.mono _ _
      | exact spec_LeastWaste.mono _ _ _
      | exact LeO.none _
      | refine LeO.ite ?_ ?_
      | refine LeO.bind ?_ (fun _ => ?_)
theorem laws_FnExactLeastWaste.mono : ∀ a0 a1 k, LeO (laws_FnExactLeastWaste.f k a0 a1) (laws_FnExactLeastWaste.f (k + 1) a0 a1) := by
  intro a0 a1 k
  obtain ⟨ih0, ih1, ih2⟩ := laws_FnExactLeastWaste.mono_l k
  unfold laws_FnExactLeastWaste.f
  repeat' first
      | (with_reducible exact ih0 _ _ _ _ _ _ _ _ _ _)
      | (with_reducible exact ih1 _ _ _ _ _ _ _)
      | (with_reducible exact ih2 _ _ _)
      | (with_reducible exact laws_eqIntS.mono _ _ _)
      | (with_reducible exact laws_heldIntS.mono _ _ _)
      | (with_reducible exact laws_markIntS.mono _ _ _)
      | (with_reducible exact laws_toIntS.mono _ _)
      | (with_reducible exact spec_LeastWaste.mono _ _ _)
      | (with_reducible exact LeO.refl _)
      | (with_reducible exact LeO.none _)
      | (with_reducible refine LeO.ite ?_ ?_)
      | (with_reducible refine LeO.bind ?_ (fun _ => ?_))
      | exact ih0 _ _ _ _ _ _ _ _ _ _
      | exact ih1 _ _ _ _ _ _ _
      | exact ih2 _ _ _
      | exact laws_eqIntS.mono _ _ _
      | exact laws_heldIntS.mono _ _ _
      | exact laws_markIntS.mono _ _ _
      | exact laws_toIntS.mono _ _
      | exact spec_LeastWaste.mono _ _ _
      | exact LeO.none _
      | refine LeO.ite ?_ ?_
      | refine LeO.bind ?_ (fun _ => ?_)
set_option maxHeartbeats 8000000 in
set_option maxRecDepth 100000 in
theorem laws_FnExactLeastWaste.calls (k : Nat) (a0 : Int) (A1 : Option Addr) (c1 : Nat) (l1 : List Int) (r : Bool) (w : World) (hr1 : Kd.C (Kd.int .i64) w A1 l1.length l1) (hc1 : l1.length ≤ c1) (h : laws_FnExactLeastWaste.f k a0 l1 = some r) :
    Calls Try.prog 3 #[.int .i64 a0, .slice A1 l1.length c1] w fun e w' => e = .returned (.bool r) ∧ Below w.heap.size w w' := by
  have HR1 := Aside0.mk hr1
  have HC1 := Aside0.mk hc1
  clear hr1 hc1
  have HB := Aside0.mk (Below.refl w.heap.size w)
  have H : (if (l1.length : Int) > 1048576 then (some true) else ((laws_toIntS.f k l1).bind fun t140 => ((spec_LeastWaste.f k a0 t140).bind fun bt143 => ((laws_toIntS.f k l1).bind fun t148 => ((impl_LeastWaste.f a0 t148).bind fun bt151 => (if bt151.1 = bt143.1 then ((laws_eqIntS.f k bt151.2.1 bt143.2.1).bind fun t156 => (if t156 = true then (laws_FnExactLeastWaste.j0 k a0 l1 bt143.1 bt143.2.1 bt143.2.2 t148 bt151.1 bt151.2.1 bt151.2.2 (bt151.2.2 != bt143.2.2)) else (laws_FnExactLeastWaste.j0 k a0 l1 bt143.1 bt143.2.1 bt143.2.2 t148 bt151.1 bt151.2.1 bt151.2.2 true))) else (laws_FnExactLeastWaste.j0 k a0 l1 bt143.1 bt143.2.1 bt143.2.2 t148 bt151.1 bt151.2.1 bt151.2.2 true))))))) = some r := h
  clear h
  by_cases c3 : (l1.length : Int) > 1048576
  · rw [if_pos c3] at H
    have c3b0 : decide (1048576 < (l1.length : Int)) = true := decide_eq_true c3
    have c3b1 : decide (1048576 < l1.length) = true := decide_eq_true (by omega)
    clear c3
    obtain rfl := Option.some.inj H
    go_enter Try.func3, Try.ntmps3
    go_wp2
    go_ret
    exact ⟨by first | rfl | (simp [errW_none, errW_some] <;> rfl) | (simp [*, errW_none, errW_some] <;> rfl), by repeat (first | (with_reducible first | exact HB.out | apply below_alloc | apply pw_below_drewN | apply below_drew1) | exact HB.out)⟩
  · rw [if_neg c3] at H
    have c3b0 : decide (1048576 < (l1.length : Int)) = false := decide_eq_false c3
    have c3b1 : decide (1048576 < l1.length) = false := decide_eq_false (by omega)
    clear c3
    replace H := Option.bind_eq_some_iff.mp H
    obtain ⟨t140, A40, H⟩ := H
    replace H : ((spec_LeastWaste.f k a0 t140).bind fun bt143 => ((laws_toIntS.f k l1).bind fun t148 => ((impl_LeastWaste.f a0 t148).bind fun bt151 => (if bt151.1 = bt143.1 then ((laws_eqIntS.f k bt151.2.1 bt143.2.1).bind fun t156 => (if t156 = true then (laws_FnExactLeastWaste.j0 k a0 l1 bt143.1 bt143.2.1 bt143.2.2 t148 bt151.1 bt151.2.1 bt151.2.2 (bt151.2.2 != bt143.2.2)) else (laws_FnExactLeastWaste.j0 k a0 l1 bt143.1 bt143.2.1 bt143.2.2 t148 bt151.1 bt151.2.1 bt151.2.2 true))) else (laws_FnExactLeastWaste.j0 k a0 l1 bt143.1 bt143.2.1 bt143.2.2 t148 bt151.1 bt151.2.1 bt151.2.2 true))))) = some r := H
    have A4 := Aside0.mk A40
    clear A40
    replace H := Option.bind_eq_some_iff.mp H
    obtain ⟨⟨t143, t144, t145⟩, A50, H⟩ := H
    replace H : ((laws_toIntS.f k l1).bind fun t148 => ((impl_LeastWaste.f a0 t148).bind fun bt151 => (if bt151.1 = t143 then ((laws_eqIntS.f k bt151.2.1 t144).bind fun t156 => (if t156 = true then (laws_FnExactLeastWaste.j0 k a0 l1 t143 t144 t145 t148 bt151.1 bt151.2.1 bt151.2.2 (bt151.2.2 != t145)) else (laws_FnExactLeastWaste.j0 k a0 l1 t143 t144 t145 t148 bt151.1 bt151.2.1 bt151.2.2 true))) else (laws_FnExactLeastWaste.j0 k a0 l1 t143 t144 t145 t148 bt151.1 bt151.2.1 bt151.2.2 true)))) = some r := H
    have A5 := Aside0.mk A50
    clear A50
    replace H := Option.bind_eq_some_iff.mp H
    obtain ⟨t148, A60, H⟩ := H
    replace H : ((impl_LeastWaste.f a0 t148).bind fun bt151 => (if bt151.1 = t143 then ((laws_eqIntS.f k bt151.2.1 t144).bind fun t156 => (if t156 = true then (laws_FnExactLeastWaste.j0 k a0 l1 t143 t144 t145 t148 bt151.1 bt151.2.1 bt151.2.2 (bt151.2.2 != t145)) else (laws_FnExactLeastWaste.j0 k a0 l1 t143 t144 t145 t148 bt151.1 bt151.2.1 bt151.2.2 true))) else (laws_FnExactLeastWaste.j0 k a0 l1 t143 t144 t145 t148 bt151.1 bt151.2.1 bt151.2.2 true))) = some r := H
    have A6 := Aside0.mk A60
    clear A60
    replace H := Option.bind_eq_some_iff.mp H
    obtain ⟨⟨t151, t152, t153⟩, A70, H⟩ := H
    replace H : (if t151 = t143 then ((laws_eqIntS.f k t152 t144).bind fun t156 => (if t156 = true then (laws_FnExactLeastWaste.j0 k a0 l1 t143 t144 t145 t148 t151 t152 t153 (t153 != t145)) else (laws_FnExactLeastWaste.j0 k a0 l1 t143 t144 t145 t148 t151 t152 t153 true))) else (laws_FnExactLeastWaste.j0 k a0 l1 t143 t144 t145 t148 t151 t152 t153 true)) = some r := H
    have A7 := Aside0.mk A70
    clear A70
    have HC8 := Aside0.mk H
    clear H
    go_enter Try.func3, Try.ntmps3
    go_upto_region 6 with (first | ((with_reducible refine gate_callee (f := 11) rfl ?_); refine goesL_ (some 24) rfl rfl Try.func11 (by kernel_rfl) rfl #[.slice A1 l1.length c1] rfl (by (try simp only [List.map_toArray, List.map_cons, List.map_nil]); first | done | rfl | (simp only [List.length_drop, List.length_take]; rfl)) ?_; (with_reducible refine (laws_toIntS.calls k _ _ l1 t140 _ ?side1 ?side2 A4.out).mono ?_); (case side1 => repeat (first | exact HR1.out | (with_reducible refine Kd.C_alloc ?_ _) | (with_reducible refine Kd.C_drewN ?_ _) | (with_reducible refine Kd.C_drew ?_))); (case side2 => exact HC1.out); rintro e w9 ⟨v141, rfl, ho0, hb⟩; refine ⟨_, rfl, ?_⟩; have n0_ := Aside0.mk (Kd.R_lower ho0 (below_size (by repeat (first | (with_reducible first | exact HB.out | apply below_alloc | apply pw_below_drewN | apply below_drew1) | exact HB.out)))); have n1_ := Aside0.mk (below_step (by repeat (first | (with_reducible first | exact HB.out | apply below_alloc | apply pw_below_drewN | apply below_drew1) | exact HB.out)) hb); clear HB; have HO142 := n0_; have HB := n1_; clear n0_ n1_; (try clear hb); (try clear hb2); (try clear hk); (try clear hi); (try clear ho0); obtain ⟨Ao10, co10, eo10⟩ := Kd.R_slice HO142.out; subst eo10) | ((with_reducible refine gate_callee (f := 10) rfl ?_); refine goesL_ (some 25) rfl rfl Try.func10 (by kernel_rfl) rfl #[.int .i64 a0, .slice Ao10 t140.length co10] rfl (by (try simp only [List.map_toArray, List.map_cons, List.map_nil]); first | done | rfl | (simp only [List.length_drop, List.length_take]; rfl)) ?_; (with_reducible refine (spec_LeastWaste.calls k a0 _ _ t140 t143 t144 t145 _ ?side1 ?side2 A5.out).mono ?_); (case side1 => repeat (first | exact (Kd.R_reads' HO142.out).2.2 | (with_reducible refine Kd.C_alloc ?_ _) | (with_reducible refine Kd.C_drewN ?_ _) | (with_reducible refine Kd.C_drew ?_))); (case side2 => exact (Kd.R_reads' HO142.out).2.1); rintro e w11 ⟨v146, rfl, ho0, hb⟩; refine ⟨_, rfl, ?_⟩; have n0_ := Aside0.mk (Kd.R_elder' (by (with_reducible repeat (first | apply Kd.R_alloc | apply Kd.R_drewN | apply Kd.R_drew)); exact HO142.out) (Kd.R_base ho0) hb); have n1_ := Aside0.mk (Kd.R_lower (Kd.R_new' ho0 (Kd.R_lt (by (with_reducible repeat (first | apply Kd.R_alloc | apply Kd.R_drewN | apply Kd.R_drew)); exact HO142.out))) (below_size (by repeat (first | (with_reducible first | exact HB.out | apply below_alloc | apply pw_below_drewN | apply below_drew1) | exact HB.out)))); have n2_ := Aside0.mk (below_step (by repeat (first | (with_reducible first | exact HB.out | apply below_alloc | apply pw_below_drewN | apply below_drew1) | exact HB.out)) hb); clear HO142; clear HB; have HO142 := n0_; have HO147 := n1_; have HB := n2_; clear n0_ n1_ n2_; (try clear hb); (try clear hb2); (try clear hk); (try clear hi); (try clear ho0)) | ((with_reducible refine gate_callee (f := 11) rfl ?_); refine goesL_ (some 30) rfl rfl Try.func11 (by kernel_rfl) rfl #[.slice A1 l1.length c1] rfl (by (try simp only [List.map_toArray, List.map_cons, List.map_nil]); first | done | rfl | (simp only [List.length_drop, List.length_take]; rfl)) ?_; (with_reducible refine (laws_toIntS.calls k _ _ l1 t148 _ ?side1 ?side2 A6.out).mono ?_); (case side1 => repeat (first | exact (Kd.C_below HR1.out HB.out) | (with_reducible refine Kd.C_alloc ?_ _) | (with_reducible refine Kd.C_drewN ?_ _) | (with_reducible refine Kd.C_drew ?_))); (case side2 => exact HC1.out); rintro e w12 ⟨v149, rfl, ho0, hb⟩; refine ⟨_, rfl, ?_⟩; have n0_ := Aside0.mk (Kd.R_elder' (by (with_reducible repeat (first | apply Kd.R_alloc | apply Kd.R_drewN | apply Kd.R_drew)); exact HO142.out) (Kd.R_base ho0) hb); have n1_ := Aside0.mk (Kd.R_elder' (by (with_reducible repeat (first | apply Kd.R_alloc | apply Kd.R_drewN | apply Kd.R_drew)); exact HO147.out) (Kd.R_base ho0) hb); have n2_ := Aside0.mk (Kd.R_lower (Kd.R_new' (Kd.R_new' ho0 (Kd.R_lt (by (with_reducible repeat (first | apply Kd.R_alloc | apply Kd.R_drewN | apply Kd.R_drew)); exact HO142.out))) (Kd.R_lt (by (with_reducible repeat (first | apply Kd.R_alloc | apply Kd.R_drewN | apply Kd.R_drew)); exact HO147.out))) (below_size (by repeat (first | (with_reducible first | exact HB.out | apply below_alloc | apply pw_below_drewN | apply below_drew1) | exact HB.out)))); have n3_ := Aside0.mk (below_step (by repeat (first | (with_reducible first | exact HB.out | apply below_alloc | apply pw_below_drewN | apply below_drew1) | exact HB.out)) hb); clear HO142; clear HO147; clear HB; have HO142 := n0_; have HO147 := n1_; have HO150 := n2_; have HB := n3_; clear n0_ n1_ n2_ n3_; (try clear hb); (try clear hb2); (try clear hk); (try clear hi); (try clear ho0); obtain ⟨Ao13, co13, eo13⟩ := Kd.R_slice HO150.out; subst eo13) | ((with_reducible refine gate_callee (f := 12) rfl ?_); refine goesL_ (some 34) rfl rfl Try.func12 (by kernel_rfl) rfl #[.int .i64 a0, .slice Ao13 t148.length co13] rfl (by (try simp only [List.map_toArray, List.map_cons, List.map_nil]); first | done | rfl | (simp only [List.length_drop, List.length_take]; rfl)) ?_; (with_reducible refine (impl_LeastWaste.calls a0 _ _ t148 t151 t152 t153 _ ?side1 ?side2 A7.out).mono ?_); (case side1 => repeat (first | exact (Kd.R_reads' HO150.out).2.2 | (with_reducible refine Kd.C_alloc ?_ _) | (with_reducible refine Kd.C_drewN ?_ _) | (with_reducible refine Kd.C_drew ?_))); (case side2 => exact (Kd.R_reads' HO150.out).2.1); rintro e w14 ⟨v154, rfl, ho0, hb⟩; refine ⟨_, rfl, ?_⟩; have n0_ := Aside0.mk (Kd.R_elder' (by (with_reducible repeat (first | apply Kd.R_alloc | apply Kd.R_drewN | apply Kd.R_drew)); exact HO142.out) (Kd.R_base ho0) hb); have n1_ := Aside0.mk (Kd.R_elder' (by (with_reducible repeat (first | apply Kd.R_alloc | apply Kd.R_drewN | apply Kd.R_drew)); exact HO147.out) (Kd.R_base ho0) hb); have n2_ := Aside0.mk (Kd.R_elder' (by (with_reducible repeat (first | apply Kd.R_alloc | apply Kd.R_drewN | apply Kd.R_drew)); exact HO150.out) (Kd.R_base ho0) hb); have n3_ := Aside0.mk (Kd.R_lower (Kd.R_new' (Kd.R_new' (Kd.R_new' ho0 (Kd.R_lt (by (with_reducible repeat (first | apply Kd.R_alloc | apply Kd.R_drewN | apply Kd.R_drew)); exact HO142.out))) (Kd.R_lt (by (with_reducible repeat (first | apply Kd.R_alloc | apply Kd.R_drewN | apply Kd.R_drew)); exact HO147.out))) (Kd.R_lt (by (with_reducible repeat (first | apply Kd.R_alloc | apply Kd.R_drewN | apply Kd.R_drew)); exact HO150.out))) (below_size (by repeat (first | (with_reducible first | exact HB.out | apply below_alloc | apply pw_below_drewN | apply below_drew1) | exact HB.out)))); have n4_ := Aside0.mk (below_step (by repeat (first | (with_reducible first | exact HB.out | apply below_alloc | apply pw_below_drewN | apply below_drew1) | exact HB.out)) hb); clear HO142; clear HO147; clear HO150; clear HB; have HO142 := n0_; have HO147 := n1_; have HO150 := n2_; have HO155 := n3_; have HB := n4_; clear n0_ n1_ n2_ n3_ n4_; (try clear hb); (try clear hb2); (try clear hk); (try clear hi); (try clear ho0)))
    (try simp only [Act.put, List.setIfInBounds_toArray, List.set_cons_zero, List.set_cons_succ])
    go_cut [51] (fun v51 wc => ∃ (kq : Nat) (x51_7 : Bool), v51 = .bool x51_7 ∧ Aside0 (laws_FnExactLeastWaste.j0 kq a0 l1 t143 t144 t145 t148 t151 t152 t153 x51_7 = some r) ∧ Aside0 (kq ≤ k) ∧ Aside0 (Kd.R (Kd.int .i64) 3 wc w.heap.size (fun k_ => some k_ ≠ ((.slice Ao13 t148.length co13) : Value).ownBlock ∧ some k_ ≠ (v154 : Value).ownBlock) v146 t144) ∧ Aside0 (Kd.R (Kd.int .i64) 3 wc w.heap.size (fun k_ => some k_ ≠ (v146 : Value).ownBlock ∧ some k_ ≠ (v154 : Value).ownBlock) (.slice Ao13 t148.length co13) t148) ∧ Aside0 (Kd.R (Kd.int .i64) 3 wc w.heap.size (fun k_ => some k_ ≠ (v146 : Value).ownBlock ∧ some k_ ≠ ((.slice Ao13 t148.length co13) : Value).ownBlock) v154 t152) ∧ Aside0 (Below w.heap.size w wc))
    case first =>
      have H := HC8.out
      clear HC8
      by_cases c15 : t151 = t143
      · rw [if_pos c15] at H
        have c15b0 : (t151 == t143) = true := beq_iff_eq.mpr c15
        have c15b1 : (t151 != t143) = false := bne_eq_false_iff_eq.mpr c15
        clear c15
        (first | rw [c15b0] | (simp only [i64_w, i32_w]; rw [c15b0]) | skip)
        replace H := Option.bind_eq_some_iff.mp H
        obtain ⟨t156, A160, H⟩ := H
        replace H : (if t156 = true then (laws_FnExactLeastWaste.j0 k a0 l1 t143 t144 t145 t148 t151 t152 t153 (t153 != t145)) else (laws_FnExactLeastWaste.j0 k a0 l1 t143 t144 t145 t148 t151 t152 t153 true)) = some r := H
        have A16 := Aside0.mk A160
        clear A160
        by_cases c17 : t156 = true
        · subst c17
          have H1 : (laws_FnExactLeastWaste.j0 k a0 l1 t143 t144 t145 t148 t151 t152 t153 (t153 != t145)) = some r := by rw [if_pos rfl] at H; exact H
          clear H
          have H := H1
          clear H1
          have H' := Aside0.mk H
          clear H
          obtain ⟨Ao18, co18, eo18⟩ := Kd.R_slice HO155.out
          subst eo18
          obtain ⟨Ao19, co19, eo19⟩ := Kd.R_slice HO147.out
          subst eo19
          go_wp2_with (first | (go_at_call 13; (with_reducible refine (laws_eqIntS.calls k _ _ t152 _ _ t144 true _ ?side1 ?side2 ?side3 ?side4 A16.out).mono ?_); (case side1 => repeat (first | exact (Kd.R_reads' HO155.out).2.2 | (with_reducible refine Kd.C_alloc ?_ _) | (with_reducible refine Kd.C_drewN ?_ _) | (with_reducible refine Kd.C_drew ?_))); (case side2 => exact (Kd.R_reads' HO155.out).2.1); (case side3 => repeat (first | exact (Kd.R_reads' HO147.out).2.2 | (with_reducible refine Kd.C_alloc ?_ _) | (with_reducible refine Kd.C_drewN ?_ _) | (with_reducible refine Kd.C_drew ?_))); (case side4 => exact (Kd.R_reads' HO147.out).2.1); rintro e w' ⟨rfl, ⟨nd, rfl⟩⟩))
          go_meet
          case rel => exact ⟨_, ((t153 != t145)), (by first | rfl | (simp; done) | (simp [*]; done)), H', ⟨by first | omega | exact Nat.le_refl _⟩, ⟨by (with_reducible repeat (first | apply Kd.R_alloc | apply Kd.R_drewN | apply Kd.R_drew)); exact Kd.R_mono HO147.out (fun _ hk => ⟨hk.1.2, hk.2⟩)⟩, ⟨by (with_reducible repeat (first | apply Kd.R_alloc | apply Kd.R_drewN | apply Kd.R_drew)); exact Kd.R_mono HO150.out (fun _ hk => ⟨hk.1.2, hk.2⟩)⟩, ⟨by (with_reducible repeat (first | apply Kd.R_alloc | apply Kd.R_drewN | apply Kd.R_drew)); exact Kd.R_mono HO155.out (fun _ hk => ⟨hk.1.2, hk.2⟩)⟩, ⟨by repeat (first | (with_reducible first | exact HB.out | apply below_alloc | apply pw_below_drewN | apply below_drew1) | exact HB.out)⟩⟩
        · replace c17 := Bool.eq_false_iff.mpr c17
          subst c17
          have H1 : (laws_FnExactLeastWaste.j0 k a0 l1 t143 t144 t145 t148 t151 t152 t153 true) = some r := by rw [if_neg (show ¬ (false = true) by decide)] at H; exact H
          clear H
          have H := H1
          clear H1
          have H' := Aside0.mk H
          clear H
          obtain ⟨Ao20, co20, eo20⟩ := Kd.R_slice HO155.out
          subst eo20
          obtain ⟨Ao21, co21, eo21⟩ := Kd.R_slice HO147.out
          subst eo21
          go_wp2_with (first | (go_at_call 13; (with_reducible refine (laws_eqIntS.calls k _ _ t152 _ _ t144 false _ ?side1 ?side2 ?side3 ?side4 A16.out).mono ?_); (case side1 => repeat (first | exact (Kd.R_reads' HO155.out).2.2 | (with_reducible refine Kd.C_alloc ?_ _) | (with_reducible refine Kd.C_drewN ?_ _) | (with_reducible refine Kd.C_drew ?_))); (case side2 => exact (Kd.R_reads' HO155.out).2.1); (case side3 => repeat (first | exact (Kd.R_reads' HO147.out).2.2 | (with_reducible refine Kd.C_alloc ?_ _) | (with_reducible refine Kd.C_drewN ?_ _) | (with_reducible refine Kd.C_drew ?_))); (case side4 => exact (Kd.R_reads' HO147.out).2.1); rintro e w' ⟨rfl, ⟨nd, rfl⟩⟩))
          go_meet
          case rel => exact ⟨_, (true), (by first | rfl | (simp; done) | (simp [*]; done)), H', ⟨by first | omega | exact Nat.le_refl _⟩, ⟨by (with_reducible repeat (first | apply Kd.R_alloc | apply Kd.R_drewN | apply Kd.R_drew)); exact Kd.R_mono HO147.out (fun _ hk => ⟨hk.1.2, hk.2⟩)⟩, ⟨by (with_reducible repeat (first | apply Kd.R_alloc | apply Kd.R_drewN | apply Kd.R_drew)); exact Kd.R_mono HO150.out (fun _ hk => ⟨hk.1.2, hk.2⟩)⟩, ⟨by (with_reducible repeat (first | apply Kd.R_alloc | apply Kd.R_drewN | apply Kd.R_drew)); exact Kd.R_mono HO155.out (fun _ hk => ⟨hk.1.2, hk.2⟩)⟩, ⟨by repeat (first | (with_reducible first | exact HB.out | apply below_alloc | apply pw_below_drewN | apply below_drew1) | exact HB.out)⟩⟩
      · rw [if_neg c15] at H
        have c15b0 : (t151 == t143) = false := beq_eq_false_iff_ne.mpr c15
        have c15b1 : (t151 != t143) = true := bne_iff_ne.mpr c15
        (first | rw [c15b0] | (simp only [i64_w, i32_w]; rw [c15b0]) | skip)
        have H' := Aside0.mk H
        clear H
        go_wp2
        go_meet
        case rel => exact ⟨_, (true), (by first | rfl | (simp; done) | (simp [*]; done)), H', ⟨by first | omega | exact Nat.le_refl _⟩, ⟨by (with_reducible repeat (first | apply Kd.R_alloc | apply Kd.R_drewN | apply Kd.R_drew)); exact Kd.R_mono HO147.out (fun _ hk => ⟨hk.1.2, hk.2⟩)⟩, ⟨by (with_reducible repeat (first | apply Kd.R_alloc | apply Kd.R_drewN | apply Kd.R_drew)); exact Kd.R_mono HO150.out (fun _ hk => ⟨hk.1.2, hk.2⟩)⟩, ⟨by (with_reducible repeat (first | apply Kd.R_alloc | apply Kd.R_drewN | apply Kd.R_drew)); exact Kd.R_mono HO155.out (fun _ hk => ⟨hk.1.2, hk.2⟩)⟩, ⟨by repeat (first | (with_reducible first | exact HB.out | apply below_alloc | apply pw_below_drewN | apply below_drew1) | exact HB.out)⟩⟩
    case rest =>
      clear HC8
      try clear c1
      try clear p2
      try clear c3
      try clear c3b0
      try clear c3b1
      try clear c10
      try clear c11
      try clear c12
      try clear c15
      try clear c15b0
      try clear c15b1
      try clear c17
      obtain ⟨kq, x51_7, rfl, HA, HJ7, HO_6, HO_8, HO_10, HB⟩ := hcut
      cases kq with
      | zero => exact absurd HA.out (by simp [laws_FnExactLeastWaste.j0])
      | succ kj7 =>
        have H := HA.out
        clear HA
        simp only [laws_FnExactLeastWaste.j0] at H
        by_cases c22 : x51_7 = true
        · subst c22
          have H1 : (some false) = some r := by rw [if_pos rfl] at H; exact H
          clear H
          have H := H1
          clear H1
          obtain rfl := Option.some.inj H
          go_wp2
          go_ret
          exact ⟨by first | rfl | (simp [errW_none, errW_some] <;> rfl) | (simp [*, errW_none, errW_some] <;> rfl), by repeat (first | (with_reducible first | exact HB.out | apply below_alloc | apply pw_below_drewN | apply below_drew1) | exact HB.out)⟩
        · replace c22 := Bool.eq_false_iff.mpr c22
          subst c22
          have H1 : ((laws_toIntS.f kj7 l1).bind fun t157 => ((laws_eqIntS.f kj7 t148 t157).bind fun t160 => (if t160 = true then ((laws_markIntS.f kj7 t148 1).bind fun bt161 => (if bt161.1 < 0 then (laws_FnExactLeastWaste.j1 kj7 a0 l1 t143 t144 t145 t152 true) else (if t151 = t143 then ((laws_eqIntS.f kj7 t152 t144).bind fun t163 => (if t163 = true then (laws_FnExactLeastWaste.j1 kj7 a0 l1 t143 t144 t145 t152 (t153 != t145)) else (laws_FnExactLeastWaste.j1 kj7 a0 l1 t143 t144 t145 t152 true))) else (laws_FnExactLeastWaste.j1 kj7 a0 l1 t143 t144 t145 t152 true)))) else (some false)))) = some r := by rw [if_neg (show ¬ (false = true) by decide)] at H; exact H
          clear H
          have H := H1
          clear H1
          replace H := Option.bind_eq_some_iff.mp H
          obtain ⟨t157, A230, H⟩ := H
          replace H : ((laws_eqIntS.f kj7 t148 t157).bind fun t160 => (if t160 = true then ((laws_markIntS.f kj7 t148 1).bind fun bt161 => (if bt161.1 < 0 then (laws_FnExactLeastWaste.j1 kj7 a0 l1 t143 t144 t145 t152 true) else (if t151 = t143 then ((laws_eqIntS.f kj7 t152 t144).bind fun t163 => (if t163 = true then (laws_FnExactLeastWaste.j1 kj7 a0 l1 t143 t144 t145 t152 (t153 != t145)) else (laws_FnExactLeastWaste.j1 kj7 a0 l1 t143 t144 t145 t152 true))) else (laws_FnExactLeastWaste.j1 kj7 a0 l1 t143 t144 t145 t152 true)))) else (some false))) = some r := H
          have A23 := Aside0.mk A230
          clear A230
          replace H := Option.bind_eq_some_iff.mp H
          obtain ⟨t160, A240, H⟩ := H
          replace H : (if t160 = true then ((laws_markIntS.f kj7 t148 1).bind fun bt161 => (if bt161.1 < 0 then (laws_FnExactLeastWaste.j1 kj7 a0 l1 t143 t144 t145 t152 true) else (if t151 = t143 then ((laws_eqIntS.f kj7 t152 t144).bind fun t163 => (if t163 = true then (laws_FnExactLeastWaste.j1 kj7 a0 l1 t143 t144 t145 t152 (t153 != t145)) else (laws_FnExactLeastWaste.j1 kj7 a0 l1 t143 t144 t145 t152 true))) else (laws_FnExactLeastWaste.j1 kj7 a0 l1 t143 t144 t145 t152 true)))) else (some false)) = some r := H
          have A24 := Aside0.mk A240
          clear A240
          by_cases c25 : t160 = true
          · subst c25
            have H1 : ((laws_markIntS.f kj7 t148 1).bind fun bt161 => (if bt161.1 < 0 then (laws_FnExactLeastWaste.j1 kj7 a0 l1 t143 t144 t145 t152 true) else (if t151 = t143 then ((laws_eqIntS.f kj7 t152 t144).bind fun t163 => (if t163 = true then (laws_FnExactLeastWaste.j1 kj7 a0 l1 t143 t144 t145 t152 (t153 != t145)) else (laws_FnExactLeastWaste.j1 kj7 a0 l1 t143 t144 t145 t152 true))) else (laws_FnExactLeastWaste.j1 kj7 a0 l1 t143 t144 t145 t152 true)))) = some r := by rw [if_pos rfl] at H; exact H
            clear H
            have H := H1
            clear H1
            replace H := Option.bind_eq_some_iff.mp H
            obtain ⟨⟨t161, t162⟩, A260, H⟩ := H
            replace H : (if t161 < 0 then (laws_FnExactLeastWaste.j1 kj7 a0 l1 t143 t144 t145 t152 true) else (if t151 = t143 then ((laws_eqIntS.f kj7 t152 t144).bind fun t163 => (if t163 = true then (laws_FnExactLeastWaste.j1 kj7 a0 l1 t143 t144 t145 t152 (t153 != t145)) else (laws_FnExactLeastWaste.j1 kj7 a0 l1 t143 t144 t145 t152 true))) else (laws_FnExactLeastWaste.j1 kj7 a0 l1 t143 t144 t145 t152 true))) = some r := H
            have A26 := Aside0.mk A260
            clear A260
            have HC27 := Aside0.mk H
            clear H
            go_upto_region 12 with (first | ((with_reducible refine gate_callee (f := 11) rfl ?_); refine goesL_ (some 54) rfl rfl Try.func11 (by kernel_rfl) rfl #[.slice A1 l1.length c1] rfl (by (try simp only [List.map_toArray, List.map_cons, List.map_nil]); first | done | rfl | (simp only [List.length_drop, List.length_take]; rfl)) ?_; (with_reducible refine (laws_toIntS.calls kj7 _ _ l1 t157 _ ?side1 ?side2 A23.out).mono ?_); (case side1 => repeat (first | exact (Kd.C_below HR1.out HB.out) | (with_reducible refine Kd.C_alloc ?_ _) | (with_reducible refine Kd.C_drewN ?_ _) | (with_reducible refine Kd.C_drew ?_))); (case side2 => exact HC1.out); rintro e w28 ⟨v158, rfl, ho0, hb⟩; refine ⟨_, rfl, ?_⟩; have n0_ := Aside0.mk (Kd.R_elder' (by (with_reducible repeat (first | apply Kd.R_alloc | apply Kd.R_drewN | apply Kd.R_drew)); exact HO_6.out) (Kd.R_base ho0) hb); have n1_ := Aside0.mk (Kd.R_elder' (by (with_reducible repeat (first | apply Kd.R_alloc | apply Kd.R_drewN | apply Kd.R_drew)); exact HO_8.out) (Kd.R_base ho0) hb); have n2_ := Aside0.mk (Kd.R_elder' (by (with_reducible repeat (first | apply Kd.R_alloc | apply Kd.R_drewN | apply Kd.R_drew)); exact HO_10.out) (Kd.R_base ho0) hb); have n3_ := Aside0.mk (Kd.R_lower (Kd.R_new' (Kd.R_new' (Kd.R_new' ho0 (Kd.R_lt (by (with_reducible repeat (first | apply Kd.R_alloc | apply Kd.R_drewN | apply Kd.R_drew)); exact HO_6.out))) (Kd.R_lt (by (with_reducible repeat (first | apply Kd.R_alloc | apply Kd.R_drewN | apply Kd.R_drew)); exact HO_8.out))) (Kd.R_lt (by (with_reducible repeat (first | apply Kd.R_alloc | apply Kd.R_drewN | apply Kd.R_drew)); exact HO_10.out))) (below_size (by repeat (first | (with_reducible first | exact HB.out | apply below_alloc | apply pw_below_drewN | apply below_drew1) | exact HB.out)))); have n4_ := Aside0.mk (below_step (by repeat (first | (with_reducible first | exact HB.out | apply below_alloc | apply pw_below_drewN | apply below_drew1) | exact HB.out)) hb); clear HO_6; clear HO_8; clear HO_10; clear HB; have HO_6 := n0_; have HO_8 := n1_; have HO_10 := n2_; have HO159 := n3_; have HB := n4_; clear n0_ n1_ n2_ n3_ n4_; (try clear hb); (try clear hb2); (try clear hk); (try clear hi); (try clear ho0); obtain ⟨Ao29, co29, eo29⟩ := Kd.R_slice HO159.out; subst eo29) | ((with_reducible refine gate_callee (f := 13) rfl ?_); refine goesL_ (some 55) rfl rfl Try.func13 (by kernel_rfl) rfl #[.slice Ao13 t148.length co13, .slice Ao29 t157.length co29] rfl (by (try simp only [List.map_toArray, List.map_cons, List.map_nil]); first | done | rfl | (simp only [List.length_drop, List.length_take]; rfl)) ?_; (with_reducible refine (laws_eqIntS.calls kj7 _ _ t148 _ _ t157 true _ ?side1 ?side2 ?side3 ?side4 A24.out).mono ?_); (case side1 => repeat (first | exact (Kd.R_reads' HO_8.out).2.2 | (with_reducible refine Kd.C_alloc ?_ _) | (with_reducible refine Kd.C_drewN ?_ _) | (with_reducible refine Kd.C_drew ?_))); (case side2 => exact (Kd.R_reads' HO_8.out).2.1); (case side3 => repeat (first | exact (Kd.R_reads' HO159.out).2.2 | (with_reducible refine Kd.C_alloc ?_ _) | (with_reducible refine Kd.C_drewN ?_ _) | (with_reducible refine Kd.C_drew ?_))); (case side4 => exact (Kd.R_reads' HO159.out).2.1); rintro e w' ⟨rfl, ⟨nd, rfl⟩⟩; refine ⟨_, rfl, ?_⟩) | ((with_reducible refine gate_callee (f := 14) rfl ?_); refine goesL_ (some 59) rfl rfl Try.func14 (by kernel_rfl) rfl #[.slice Ao13 t148.length co13, .int .i64 1] rfl (by (try simp only [List.map_toArray, List.map_cons, List.map_nil]); first | done | rfl | (simp only [List.length_drop, List.length_take]; rfl)) ?_; (with_reducible refine (laws_markIntS.calls kj7 (fun k_ => some k_ = (.slice Ao13 t148.length co13 : Value).ownBlock) (.slice Ao13 t148.length co13) t148 1 t161 t162 w _ ?side1 ?side2 A26.out).mono ?_); (case side1 => repeat (first | (with_reducible first | exact HB.out | apply below_alloc | apply pw_below_drewN | apply below_drew1) | exact HB.out)); (case side2 => exact Kd.R_tight rfl HO_8.out); rintro e w30 ⟨rfl, hy0, hb, hkp⟩; refine ⟨_, rfl, ?_⟩; have n0_ := Aside0.mk (Kd.R_mono (ok' := fun k_ => some k_ ≠ (.slice Ao13 t148.length co13 : Value).ownBlock ∧ some k_ ≠ (v154 : Value).ownBlock ∧ some k_ ≠ (.slice Ao29 t157.length co29 : Value).ownBlock) (Kd.R_keptB (HO_6.out) hkp (fun k_ hk_ hs_ => (hk_.1.1) hs_)) (fun k_ hk_ => ⟨hk_.1.1.1, hk_.1.1.2, hk_.1.2⟩)); have n1_ := Aside0.mk (Kd.R_reok rfl hy0 (fun k_ e_ => HO_8.out.1 k_ e_)); have n2_ := Aside0.mk (Kd.R_mono (ok' := fun k_ => some k_ ≠ (v146 : Value).ownBlock ∧ some k_ ≠ (.slice Ao13 t148.length co13 : Value).ownBlock ∧ some k_ ≠ (.slice Ao29 t157.length co29 : Value).ownBlock) (Kd.R_keptB (HO_10.out) hkp (fun k_ hk_ hs_ => (hk_.1.2) hs_)) (fun k_ hk_ => ⟨hk_.1.1.1, hk_.1.1.2, hk_.1.2⟩)); have n3_ := Aside0.mk (Kd.R_mono (ok' := fun k_ => some k_ ≠ (v146 : Value).ownBlock ∧ some k_ ≠ (.slice Ao13 t148.length co13 : Value).ownBlock ∧ some k_ ≠ (v154 : Value).ownBlock) (Kd.R_keptB (HO159.out) hkp (fun k_ hk_ hs_ => (hk_.1.2) hs_)) (fun k_ hk_ => ⟨hk_.1.1.1.2, hk_.1.1.2, hk_.1.2⟩)); have n4_ := Aside0.mk (hb); clear HO_6; clear HO_8; clear HO_10; clear HO159; clear HB; have HO_6 := n0_; have HO_8 := n1_; have HO_10 := n2_; have HO159 := n3_; have HB := n4_; clear n0_ n1_ n2_ n3_ n4_; (try clear hb); (try clear hkp); (try clear hy0)))
            (try simp only [Act.put, List.setIfInBounds_toArray, List.set_cons_zero, List.set_cons_succ])
            go_cut [77] (fun v77 wc => ∃ (kq : Nat) (x77_26 : Bool), v77 = .bool x77_26 ∧ Aside0 (laws_FnExactLeastWaste.j1 kq a0 l1 t143 t144 t145 t152 x77_26 = some r) ∧ Aside0 (kq ≤ kj7) ∧ Aside0 (Kd.R (Kd.int .i64) 3 wc w.heap.size (fun k_ => some k_ ≠ (v154 : Value).ownBlock) v146 t144) ∧ Aside0 (Kd.R (Kd.int .i64) 3 wc w.heap.size (fun k_ => some k_ ≠ (v146 : Value).ownBlock) v154 t152) ∧ Aside0 (Below w.heap.size w wc))
            case first =>
              have H := HC27.out
              clear HC27
              by_cases c31 : t161 < 0
              · rw [if_pos c31] at H
                have c31b0 : decide (t161 < 0) = true := decide_eq_true c31
                clear c31
                (first | rw [c31b0] | (simp only [i64_w, i32_w]; rw [c31b0]) | skip)
                have H' := Aside0.mk H
                clear H
                go_wp2
                go_meet
                case rel => exact ⟨_, (true), (by first | rfl | (simp; done) | (simp [*]; done)), H', ⟨by have := HJ7.out; first | omega | exact Nat.le_refl _⟩, ⟨by (with_reducible repeat (first | apply Kd.R_alloc | apply Kd.R_drewN | apply Kd.R_drew)); exact Kd.R_mono HO_6.out (fun _ hk => hk.2.1)⟩, ⟨by (with_reducible repeat (first | apply Kd.R_alloc | apply Kd.R_drewN | apply Kd.R_drew)); exact Kd.R_mono HO_10.out (fun _ hk => hk.1)⟩, ⟨by repeat (first | (with_reducible first | exact HB.out | apply below_alloc | apply pw_below_drewN | apply below_drew1) | exact HB.out)⟩⟩
              · rw [if_neg c31] at H
                have c31b0 : decide (t161 < 0) = false := decide_eq_false c31
                clear c31
                (first | rw [c31b0] | (simp only [i64_w, i32_w]; rw [c31b0]) | skip)
                by_cases c32 : t151 = t143
                · rw [if_pos c32] at H
                  have c32b0 : (t151 == t143) = true := beq_iff_eq.mpr c32
                  have c32b1 : (t151 != t143) = false := bne_eq_false_iff_eq.mpr c32
                  clear c32
                  replace H := Option.bind_eq_some_iff.mp H
                  obtain ⟨t163, A330, H⟩ := H
                  replace H : (if t163 = true then (laws_FnExactLeastWaste.j1 kj7 a0 l1 t143 t144 t145 t152 (t153 != t145)) else (laws_FnExactLeastWaste.j1 kj7 a0 l1 t143 t144 t145 t152 true)) = some r := H
                  have A33 := Aside0.mk A330
                  clear A330
                  by_cases c34 : t163 = true
                  · subst c34
                    have H1 : (laws_FnExactLeastWaste.j1 kj7 a0 l1 t143 t144 t145 t152 (t153 != t145)) = some r := by rw [if_pos rfl] at H; exact H
                    clear H
                    have H := H1
                    clear H1
                    have H' := Aside0.mk H
                    clear H
                    obtain ⟨Ao35, co35, eo35⟩ := Kd.R_slice HO_10.out
                    subst eo35
                    obtain ⟨Ao36, co36, eo36⟩ := Kd.R_slice HO_6.out
                    subst eo36
                    go_wp2_with (first | (go_at_call 13; (with_reducible refine (laws_eqIntS.calls kj7 _ _ t152 _ _ t144 true _ ?side1 ?side2 ?side3 ?side4 A33.out).mono ?_); (case side1 => repeat (first | exact (Kd.R_reads' HO_10.out).2.2 | (with_reducible refine Kd.C_alloc ?_ _) | (with_reducible refine Kd.C_drewN ?_ _) | (with_reducible refine Kd.C_drew ?_))); (case side2 => exact (Kd.R_reads' HO_10.out).2.1); (case side3 => repeat (first | exact (Kd.R_reads' HO_6.out).2.2 | (with_reducible refine Kd.C_alloc ?_ _) | (with_reducible refine Kd.C_drewN ?_ _) | (with_reducible refine Kd.C_drew ?_))); (case side4 => exact (Kd.R_reads' HO_6.out).2.1); rintro e w' ⟨rfl, ⟨nd, rfl⟩⟩))
                    go_meet
                    case rel => exact ⟨_, ((t153 != t145)), (by first | rfl | (simp; done) | (simp [*]; done)), H', ⟨by have := HJ7.out; first | omega | exact Nat.le_refl _⟩, ⟨by (with_reducible repeat (first | apply Kd.R_alloc | apply Kd.R_drewN | apply Kd.R_drew)); exact Kd.R_mono HO_6.out (fun _ hk => hk.2.1)⟩, ⟨by (with_reducible repeat (first | apply Kd.R_alloc | apply Kd.R_drewN | apply Kd.R_drew)); exact Kd.R_mono HO_10.out (fun _ hk => hk.1)⟩, ⟨by repeat (first | (with_reducible first | exact HB.out | apply below_alloc | apply pw_below_drewN | apply below_drew1) | exact HB.out)⟩⟩
                  · replace c34 := Bool.eq_false_iff.mpr c34
                    subst c34
                    have H1 : (laws_FnExactLeastWaste.j1 kj7 a0 l1 t143 t144 t145 t152 true) = some r := by rw [if_neg (show ¬ (false = true) by decide)] at H; exact H
                    clear H
                    have H := H1
                    clear H1
                    have H' := Aside0.mk H
                    clear H
                    obtain ⟨Ao37, co37, eo37⟩ := Kd.R_slice HO_10.out
                    subst eo37
                    obtain ⟨Ao38, co38, eo38⟩ := Kd.R_slice HO_6.out
                    subst eo38
                    go_wp2_with (first | (go_at_call 13; (with_reducible refine (laws_eqIntS.calls kj7 _ _ t152 _ _ t144 false _ ?side1 ?side2 ?side3 ?side4 A33.out).mono ?_); (case side1 => repeat (first | exact (Kd.R_reads' HO_10.out).2.2 | (with_reducible refine Kd.C_alloc ?_ _) | (with_reducible refine Kd.C_drewN ?_ _) | (with_reducible refine Kd.C_drew ?_))); (case side2 => exact (Kd.R_reads' HO_10.out).2.1); (case side3 => repeat (first | exact (Kd.R_reads' HO_6.out).2.2 | (with_reducible refine Kd.C_alloc ?_ _) | (with_reducible refine Kd.C_drewN ?_ _) | (with_reducible refine Kd.C_drew ?_))); (case side4 => exact (Kd.R_reads' HO_6.out).2.1); rintro e w' ⟨rfl, ⟨nd, rfl⟩⟩))
                    go_meet
                    case rel => exact ⟨_, (true), (by first | rfl | (simp; done) | (simp [*]; done)), H', ⟨by have := HJ7.out; first | omega | exact Nat.le_refl _⟩, ⟨by (with_reducible repeat (first | apply Kd.R_alloc | apply Kd.R_drewN | apply Kd.R_drew)); exact Kd.R_mono HO_6.out (fun _ hk => hk.2.1)⟩, ⟨by (with_reducible repeat (first | apply Kd.R_alloc | apply Kd.R_drewN | apply Kd.R_drew)); exact Kd.R_mono HO_10.out (fun _ hk => hk.1)⟩, ⟨by repeat (first | (with_reducible first | exact HB.out | apply below_alloc | apply pw_below_drewN | apply below_drew1) | exact HB.out)⟩⟩
                · rw [if_neg c32] at H
                  have c32b0 : (t151 == t143) = false := beq_eq_false_iff_ne.mpr c32
                  have c32b1 : (t151 != t143) = true := bne_iff_ne.mpr c32
                  have H' := Aside0.mk H
                  clear H
                  go_wp2
                  go_meet
                  case rel => exact ⟨_, (true), (by first | rfl | (simp; done) | (simp [*]; done)), H', ⟨by have := HJ7.out; first | omega | exact Nat.le_refl _⟩, ⟨by (with_reducible repeat (first | apply Kd.R_alloc | apply Kd.R_drewN | apply Kd.R_drew)); exact Kd.R_mono HO_6.out (fun _ hk => hk.2.1)⟩, ⟨by (with_reducible repeat (first | apply Kd.R_alloc | apply Kd.R_drewN | apply Kd.R_drew)); exact Kd.R_mono HO_10.out (fun _ hk => hk.1)⟩, ⟨by repeat (first | (with_reducible first | exact HB.out | apply below_alloc | apply pw_below_drewN | apply below_drew1) | exact HB.out)⟩⟩
            case rest =>
              clear HC27
              try clear c1
              try clear c2
              try clear p2
              try clear c3
              try clear c3b0
              try clear c3b1
              try clear c10
              try clear c11
              try clear c12
              try clear c13
              try clear c14
              try clear c15
              try clear c15b0
              try clear c15b1
              try clear c17
              try clear c22
              try clear c25
              try clear c31
              try clear c31b0
              try clear c32
              try clear c32b0
              try clear c32b1
              try clear c34
              try clear p2
              obtain ⟨kq, x77_26, rfl, HA, HJ26, HO_6, HO_10, HB⟩ := hcut
              cases kq with
              | zero => exact absurd HA.out (by simp [laws_FnExactLeastWaste.j1])
              | succ kj26 =>
                have H := HA.out
                clear HA
                simp only [laws_FnExactLeastWaste.j1] at H
                by_cases c39 : x77_26 = true
                · subst c39
                  have H1 : (some false) = some r := by rw [if_pos rfl] at H; exact H
                  clear H
                  have H := H1
                  clear H1
                  obtain rfl := Option.some.inj H
                  go_wp2
                  go_ret
                  exact ⟨by first | rfl | (simp [errW_none, errW_some] <;> rfl) | (simp [*, errW_none, errW_some] <;> rfl), by repeat (first | (with_reducible first | exact HB.out | apply below_alloc | apply pw_below_drewN | apply below_drew1) | exact HB.out)⟩
                · replace c39 := Bool.eq_false_iff.mpr c39
                  subst c39
                  have H1 : ((laws_markIntS.f kj26 t152 1).bind fun bt164 => ((laws_heldIntS.f kj26 bt164.2 1).bind fun t166 => (if t166 < 0 then (some false) else (if t166 = bt164.1 then ((laws_toIntS.f kj26 l1).bind fun t167 => ((impl_LeastWaste.f a0 t167).bind fun bt170 => (if bt170.1 = t143 then ((laws_eqIntS.f kj26 bt170.2.1 t144).bind fun t175 => (if t175 = true then (laws_FnExactLeastWaste.j2 kj26 bt164.2 bt164.1 (bt170.2.2 != t145)) else (laws_FnExactLeastWaste.j2 kj26 bt164.2 bt164.1 true))) else (laws_FnExactLeastWaste.j2 kj26 bt164.2 bt164.1 true)))) else (some false))))) = some r := by rw [if_neg (show ¬ (false = true) by decide)] at H; exact H
                  clear H
                  have H := H1
                  clear H1
                  replace H := Option.bind_eq_some_iff.mp H
                  obtain ⟨⟨t164, t165⟩, A400, H⟩ := H
                  replace H : ((laws_heldIntS.f kj26 t165 1).bind fun t166 => (if t166 < 0 then (some false) else (if t166 = t164 then ((laws_toIntS.f kj26 l1).bind fun t167 => ((impl_LeastWaste.f a0 t167).bind fun bt170 => (if bt170.1 = t143 then ((laws_eqIntS.f kj26 bt170.2.1 t144).bind fun t175 => (if t175 = true then (laws_FnExactLeastWaste.j2 kj26 t165 t164 (bt170.2.2 != t145)) else (laws_FnExactLeastWaste.j2 kj26 t165 t164 true))) else (laws_FnExactLeastWaste.j2 kj26 t165 t164 true)))) else (some false)))) = some r := H
                  have A40 := Aside0.mk A400
                  clear A400
                  replace H := Option.bind_eq_some_iff.mp H
                  obtain ⟨t166, A410, H⟩ := H
                  replace H : (if t166 < 0 then (some false) else (if t166 = t164 then ((laws_toIntS.f kj26 l1).bind fun t167 => ((impl_LeastWaste.f a0 t167).bind fun bt170 => (if bt170.1 = t143 then ((laws_eqIntS.f kj26 bt170.2.1 t144).bind fun t175 => (if t175 = true then (laws_FnExactLeastWaste.j2 kj26 t165 t164 (bt170.2.2 != t145)) else (laws_FnExactLeastWaste.j2 kj26 t165 t164 true))) else (laws_FnExactLeastWaste.j2 kj26 t165 t164 true)))) else (some false))) = some r := H
                  have A41 := Aside0.mk A410
                  clear A410
                  by_cases c42 : t166 < 0
                  · rw [if_pos c42] at H
                    have c42b0 : decide (t166 < 0) = true := decide_eq_true c42
                    clear c42
                    obtain rfl := Option.some.inj H
                    obtain ⟨Ao43, co43, eo43⟩ := Kd.R_slice HO_10.out
                    subst eo43
                    go_wp2_with (first | ((with_reducible refine gate_callee (f := 14) rfl ?_); refine goesL_ (some 80) rfl rfl Try.func14 (by kernel_rfl) rfl #[.slice Ao43 t152.length co43, .int .i64 1] rfl (by (try simp only [List.map_toArray, List.map_cons, List.map_nil]); first | done | rfl | (simp only [List.length_drop, List.length_take]; rfl)) ?_; (with_reducible refine (laws_markIntS.calls kj26 (fun k_ => some k_ = (.slice Ao43 t152.length co43 : Value).ownBlock) (.slice Ao43 t152.length co43) t152 1 t164 t165 w _ ?side1 ?side2 A40.out).mono ?_); (case side1 => repeat (first | (with_reducible first | exact HB.out | apply below_alloc | apply pw_below_drewN | apply below_drew1) | exact HB.out)); (case side2 => exact Kd.R_tight rfl HO_10.out); rintro e w44 ⟨rfl, hy0, hb, hkp⟩; refine ⟨_, rfl, ?_⟩; have n0_ := Aside0.mk (Kd.R_mono (ok' := fun k_ => some k_ ≠ (.slice Ao43 t152.length co43 : Value).ownBlock) (Kd.R_keptB (HO_6.out) hkp (fun k_ hk_ hs_ => (hk_) hs_)) (fun k_ hk_ => hk_.1)); have n1_ := Aside0.mk (Kd.R_reok rfl hy0 (fun k_ e_ => HO_10.out.1 k_ e_)); have n2_ := Aside0.mk (hb); clear HO_6; clear HO_10; clear HB; have HO_6 := n0_; have HO_10 := n1_; have HB := n2_; clear n0_ n1_ n2_; (try clear hb); (try clear hkp); (try clear hy0)) | ((with_reducible refine gate_callee (f := 15) rfl ?_); refine goesL_ (some 83) rfl rfl Try.func15 (by kernel_rfl) rfl #[.slice Ao43 t165.length co43, .int .i64 1] rfl (by (try simp only [List.map_toArray, List.map_cons, List.map_nil]); first | done | (rw [show t165.length = t152.length from (Kd.R_reads' HO_10.out).1.symm] <;> rfl) | rfl | (simp only [List.length_drop, List.length_take]; rfl)) ?_; (with_reducible refine (laws_heldIntS.calls kj26 _ _ t165 1 t166 _ ?side1 ?side2 A41.out).mono ?_); (case side1 => repeat (first | exact (Kd.R_reads' HO_10.out).2.2 | (with_reducible refine Kd.C_alloc ?_ _) | (with_reducible refine Kd.C_drewN ?_ _) | (with_reducible refine Kd.C_drew ?_))); (case side2 => rw [show t165.length = t152.length from (Kd.R_reads' HO_10.out).1.symm]; exact (Kd.R_reads' HO_10.out).2.1); rintro e w' ⟨rfl, ⟨nd, rfl⟩⟩; refine ⟨_, rfl, ?_⟩))
                    go_ret
                    exact ⟨by first | rfl | (simp [errW_none, errW_some] <;> rfl) | (simp [*, errW_none, errW_some] <;> rfl), by repeat (first | (with_reducible first | exact HB.out | apply below_alloc | apply pw_below_drewN | apply below_drew1) | exact HB.out)⟩
                  · rw [if_neg c42] at H
                    have c42b0 : decide (t166 < 0) = false := decide_eq_false c42
                    clear c42
                    by_cases c45 : t166 = t164
                    · rw [if_pos c45] at H
                      have c45b0 : (t166 == t164) = true := beq_iff_eq.mpr c45
                      have c45b1 : (t166 != t164) = false := bne_eq_false_iff_eq.mpr c45
                      clear c45
                      replace H := Option.bind_eq_some_iff.mp H
                      obtain ⟨t167, A460, H⟩ := H
                      replace H : ((impl_LeastWaste.f a0 t167).bind fun bt170 => (if bt170.1 = t143 then ((laws_eqIntS.f kj26 bt170.2.1 t144).bind fun t175 => (if t175 = true then (laws_FnExactLeastWaste.j2 kj26 t165 t164 (bt170.2.2 != t145)) else (laws_FnExactLeastWaste.j2 kj26 t165 t164 true))) else (laws_FnExactLeastWaste.j2 kj26 t165 t164 true))) = some r := H
                      have A46 := Aside0.mk A460
                      clear A460
                      replace H := Option.bind_eq_some_iff.mp H
                      obtain ⟨⟨t170, t171, t172⟩, A470, H⟩ := H
                      replace H : (if t170 = t143 then ((laws_eqIntS.f kj26 t171 t144).bind fun t175 => (if t175 = true then (laws_FnExactLeastWaste.j2 kj26 t165 t164 (t172 != t145)) else (laws_FnExactLeastWaste.j2 kj26 t165 t164 true))) else (laws_FnExactLeastWaste.j2 kj26 t165 t164 true)) = some r := H
                      have A47 := Aside0.mk A470
                      clear A470
                      have HC48 := Aside0.mk H
                      clear H
                      obtain ⟨Ao49, co49, eo49⟩ := Kd.R_slice HO_10.out
                      subst eo49
                      go_upto_region 23 with (first | ((with_reducible refine gate_callee (f := 14) rfl ?_); refine goesL_ (some 80) rfl rfl Try.func14 (by kernel_rfl) rfl #[.slice Ao49 t152.length co49, .int .i64 1] rfl (by (try simp only [List.map_toArray, List.map_cons, List.map_nil]); first | done | rfl | (simp only [List.length_drop, List.length_take]; rfl)) ?_; (with_reducible refine (laws_markIntS.calls kj26 (fun k_ => some k_ = (.slice Ao49 t152.length co49 : Value).ownBlock) (.slice Ao49 t152.length co49) t152 1 t164 t165 w _ ?side1 ?side2 A40.out).mono ?_); (case side1 => repeat (first | (with_reducible first | exact HB.out | apply below_alloc | apply pw_below_drewN | apply below_drew1) | exact HB.out)); (case side2 => exact Kd.R_tight rfl HO_10.out); rintro e w50 ⟨rfl, hy0, hb, hkp⟩; refine ⟨_, rfl, ?_⟩; have n0_ := Aside0.mk (Kd.R_mono (ok' := fun k_ => some k_ ≠ (.slice Ao49 t152.length co49 : Value).ownBlock) (Kd.R_keptB (HO_6.out) hkp (fun k_ hk_ hs_ => (hk_) hs_)) (fun k_ hk_ => hk_.1)); have n1_ := Aside0.mk (Kd.R_reok rfl hy0 (fun k_ e_ => HO_10.out.1 k_ e_)); have n2_ := Aside0.mk (hb); clear HO_6; clear HO_10; clear HB; have HO_6 := n0_; have HO_10 := n1_; have HB := n2_; clear n0_ n1_ n2_; (try clear hb); (try clear hkp); (try clear hy0)) | ((with_reducible refine gate_callee (f := 15) rfl ?_); refine goesL_ (some 83) rfl rfl Try.func15 (by kernel_rfl) rfl #[.slice Ao49 t165.length co49, .int .i64 1] rfl (by (try simp only [List.map_toArray, List.map_cons, List.map_nil]); first | done | (rw [show t165.length = t152.length from (Kd.R_reads' HO_10.out).1.symm] <;> rfl) | rfl | (simp only [List.length_drop, List.length_take]; rfl)) ?_; (with_reducible refine (laws_heldIntS.calls kj26 _ _ t165 1 t166 _ ?side1 ?side2 A41.out).mono ?_); (case side1 => repeat (first | exact (Kd.R_reads' HO_10.out).2.2 | (with_reducible refine Kd.C_alloc ?_ _) | (with_reducible refine Kd.C_drewN ?_ _) | (with_reducible refine Kd.C_drew ?_))); (case side2 => rw [show t165.length = t152.length from (Kd.R_reads' HO_10.out).1.symm]; exact (Kd.R_reads' HO_10.out).2.1); rintro e w' ⟨rfl, ⟨nd, rfl⟩⟩; refine ⟨_, rfl, ?_⟩) | ((with_reducible refine gate_callee (f := 11) rfl ?_); refine goesL_ (some 92) rfl rfl Try.func11 (by kernel_rfl) rfl #[.slice A1 l1.length c1] rfl (by (try simp only [List.map_toArray, List.map_cons, List.map_nil]); first | done | rfl | (simp only [List.length_drop, List.length_take]; rfl)) ?_; (with_reducible refine (laws_toIntS.calls kj26 _ _ l1 t167 _ ?side1 ?side2 A46.out).mono ?_); (case side1 => repeat (first | exact (Kd.C_below HR1.out (by repeat (first | (with_reducible first | exact HB.out | apply below_alloc | apply pw_below_drewN | apply below_drew1) | exact HB.out))) | (with_reducible refine Kd.C_alloc ?_ _) | (with_reducible refine Kd.C_drewN ?_ _) | (with_reducible refine Kd.C_drew ?_))); (case side2 => exact HC1.out); rintro e w51 ⟨v168, rfl, ho0, hb⟩; refine ⟨_, rfl, ?_⟩; have n0_ := Aside0.mk (Kd.R_elder' (by (with_reducible repeat (first | apply Kd.R_alloc | apply Kd.R_drewN | apply Kd.R_drew)); exact HO_6.out) (Kd.R_base ho0) hb); have n1_ := Aside0.mk (Kd.R_elder' (by (with_reducible repeat (first | apply Kd.R_alloc | apply Kd.R_drewN | apply Kd.R_drew)); exact HO_10.out) (Kd.R_base ho0) hb); have n2_ := Aside0.mk (Kd.R_lower (Kd.R_new' (Kd.R_new' ho0 (Kd.R_lt (by (with_reducible repeat (first | apply Kd.R_alloc | apply Kd.R_drewN | apply Kd.R_drew)); exact HO_6.out))) (Kd.R_lt (by (with_reducible repeat (first | apply Kd.R_alloc | apply Kd.R_drewN | apply Kd.R_drew)); exact HO_10.out))) (below_size (by repeat (first | (with_reducible first | exact HB.out | apply below_alloc | apply pw_below_drewN | apply below_drew1) | exact HB.out)))); have n3_ := Aside0.mk (below_step (by repeat (first | (with_reducible first | exact HB.out | apply below_alloc | apply pw_below_drewN | apply below_drew1) | exact HB.out)) hb); clear HO_6; clear HO_10; clear HB; have HO_6 := n0_; have HO_10 := n1_; have HO169 := n2_; have HB := n3_; clear n0_ n1_ n2_ n3_; (try clear hb); (try clear hb2); (try clear hk); (try clear hi); (try clear ho0); obtain ⟨Ao52, co52, eo52⟩ := Kd.R_slice HO169.out; subst eo52) | ((with_reducible refine gate_callee (f := 12) rfl ?_); refine goesL_ (some 93) rfl rfl Try.func12 (by kernel_rfl) rfl #[.int .i64 a0, .slice Ao52 t167.length co52] rfl (by (try simp only [List.map_toArray, List.map_cons, List.map_nil]); first | done | rfl | (simp only [List.length_drop, List.length_take]; rfl)) ?_; (with_reducible refine (impl_LeastWaste.calls a0 _ _ t167 t170 t171 t172 _ ?side1 ?side2 A47.out).mono ?_); (case side1 => repeat (first | exact (Kd.R_reads' HO169.out).2.2 | (with_reducible refine Kd.C_alloc ?_ _) | (with_reducible refine Kd.C_drewN ?_ _) | (with_reducible refine Kd.C_drew ?_))); (case side2 => exact (Kd.R_reads' HO169.out).2.1); rintro e w53 ⟨v173, rfl, ho0, hb⟩; refine ⟨_, rfl, ?_⟩; have n0_ := Aside0.mk (Kd.R_elder' (by (with_reducible repeat (first | apply Kd.R_alloc | apply Kd.R_drewN | apply Kd.R_drew)); exact HO_6.out) (Kd.R_base ho0) hb); have n1_ := Aside0.mk (Kd.R_elder' (by (with_reducible repeat (first | apply Kd.R_alloc | apply Kd.R_drewN | apply Kd.R_drew)); exact HO_10.out) (Kd.R_base ho0) hb); have n2_ := Aside0.mk (Kd.R_elder' (by (with_reducible repeat (first | apply Kd.R_alloc | apply Kd.R_drewN | apply Kd.R_drew)); exact HO169.out) (Kd.R_base ho0) hb); have n3_ := Aside0.mk (Kd.R_lower (Kd.R_new' (Kd.R_new' (Kd.R_new' ho0 (Kd.R_lt (by (with_reducible repeat (first | apply Kd.R_alloc | apply Kd.R_drewN | apply Kd.R_drew)); exact HO_6.out))) (Kd.R_lt (by (with_reducible repeat (first | apply Kd.R_alloc | apply Kd.R_drewN | apply Kd.R_drew)); exact HO_10.out))) (Kd.R_lt (by (with_reducible repeat (first | apply Kd.R_alloc | apply Kd.R_drewN | apply Kd.R_drew)); exact HO169.out))) (below_size (by repeat (first | (with_reducible first | exact HB.out | apply below_alloc | apply pw_below_drewN | apply below_drew1) | exact HB.out)))); have n4_ := Aside0.mk (below_step (by repeat (first | (with_reducible first | exact HB.out | apply below_alloc | apply pw_below_drewN | apply below_drew1) | exact HB.out)) hb); clear HO_6; clear HO_10; clear HO169; clear HB; have HO_6 := n0_; have HO_10 := n1_; have HO169 := n2_; have HO174 := n3_; have HB := n4_; clear n0_ n1_ n2_ n3_ n4_; (try clear hb); (try clear hb2); (try clear hk); (try clear hi); (try clear ho0)))
                      (try simp only [Act.put, List.setIfInBounds_toArray, List.set_cons_zero, List.set_cons_succ])
                      go_cut [110] (fun v110 wc => ∃ (kq : Nat) (x110_47 : Bool), v110 = .bool x110_47 ∧ Aside0 (laws_FnExactLeastWaste.j2 kq t165 t164 x110_47 = some r) ∧ Aside0 (kq ≤ kj26) ∧ Aside0 (Kd.R (Kd.int .i64) 3 wc w.heap.size (fun _ => True) (.slice Ao49 t152.length co49) t165) ∧ Aside0 (Below w.heap.size w wc))
                      case first =>
                        have H := HC48.out
                        clear HC48
                        by_cases c54 : t170 = t143
                        · rw [if_pos c54] at H
                          have c54b0 : (t170 == t143) = true := beq_iff_eq.mpr c54
                          have c54b1 : (t170 != t143) = false := bne_eq_false_iff_eq.mpr c54
                          clear c54
                          (first | rw [c54b0] | (simp only [i64_w, i32_w]; rw [c54b0]) | skip)
                          replace H := Option.bind_eq_some_iff.mp H
                          obtain ⟨t175, A550, H⟩ := H
                          replace H : (if t175 = true then (laws_FnExactLeastWaste.j2 kj26 t165 t164 (t172 != t145)) else (laws_FnExactLeastWaste.j2 kj26 t165 t164 true)) = some r := H
                          have A55 := Aside0.mk A550
                          clear A550
                          by_cases c56 : t175 = true
                          · subst c56
                            have H1 : (laws_FnExactLeastWaste.j2 kj26 t165 t164 (t172 != t145)) = some r := by rw [if_pos rfl] at H; exact H
                            clear H
                            have H := H1
                            clear H1
                            have H' := Aside0.mk H
                            clear H
                            obtain ⟨Ao57, co57, eo57⟩ := Kd.R_slice HO174.out
                            subst eo57
                            obtain ⟨Ao58, co58, eo58⟩ := Kd.R_slice HO_6.out
                            subst eo58
                            go_wp2_with (first | (go_at_call 13; (with_reducible refine (laws_eqIntS.calls kj26 _ _ t171 _ _ t144 true _ ?side1 ?side2 ?side3 ?side4 A55.out).mono ?_); (case side1 => repeat (first | exact (Kd.R_reads' HO174.out).2.2 | (with_reducible refine Kd.C_alloc ?_ _) | (with_reducible refine Kd.C_drewN ?_ _) | (with_reducible refine Kd.C_drew ?_))); (case side2 => exact (Kd.R_reads' HO174.out).2.1); (case side3 => repeat (first | exact (Kd.R_reads' HO_6.out).2.2 | (with_reducible refine Kd.C_alloc ?_ _) | (with_reducible refine Kd.C_drewN ?_ _) | (with_reducible refine Kd.C_drew ?_))); (case side4 => exact (Kd.R_reads' HO_6.out).2.1); rintro e w' ⟨rfl, ⟨nd, rfl⟩⟩))
                            go_meet
                            case rel => exact ⟨_, ((t172 != t145)), (by first | rfl | (simp; done) | (simp [*]; done)), H', ⟨by have := HJ7.out; have := HJ26.out; first | omega | exact Nat.le_refl _⟩, ⟨by (with_reducible repeat (first | apply Kd.R_alloc | apply Kd.R_drewN | apply Kd.R_drew)); exact Kd.R_mono HO_10.out (fun _ hk => trivial)⟩, ⟨by repeat (first | (with_reducible first | exact HB.out | apply below_alloc | apply pw_below_drewN | apply below_drew1) | exact HB.out)⟩⟩
                          · replace c56 := Bool.eq_false_iff.mpr c56
                            subst c56
                            have H1 : (laws_FnExactLeastWaste.j2 kj26 t165 t164 true) = some r := by rw [if_neg (show ¬ (false = true) by decide)] at H; exact H
                            clear H
                            have H := H1
                            clear H1
                            have H' := Aside0.mk H
                            clear H
                            obtain ⟨Ao59, co59, eo59⟩ := Kd.R_slice HO174.out
                            subst eo59
                            obtain ⟨Ao60, co60, eo60⟩ := Kd.R_slice HO_6.out
                            subst eo60
                            go_wp2_with (first | (go_at_call 13; (with_reducible refine (laws_eqIntS.calls kj26 _ _ t171 _ _ t144 false _ ?side1 ?side2 ?side3 ?side4 A55.out).mono ?_); (case side1 => repeat (first | exact (Kd.R_reads' HO174.out).2.2 | (with_reducible refine Kd.C_alloc ?_ _) | (with_reducible refine Kd.C_drewN ?_ _) | (with_reducible refine Kd.C_drew ?_))); (case side2 => exact (Kd.R_reads' HO174.out).2.1); (case side3 => repeat (first | exact (Kd.R_reads' HO_6.out).2.2 | (with_reducible refine Kd.C_alloc ?_ _) | (with_reducible refine Kd.C_drewN ?_ _) | (with_reducible refine Kd.C_drew ?_))); (case side4 => exact (Kd.R_reads' HO_6.out).2.1); rintro e w' ⟨rfl, ⟨nd, rfl⟩⟩))
                            go_meet
                            case rel => exact ⟨_, (true), (by first | rfl | (simp; done) | (simp [*]; done)), H', ⟨by have := HJ7.out; have := HJ26.out; first | omega | exact Nat.le_refl _⟩, ⟨by (with_reducible repeat (first | apply Kd.R_alloc | apply Kd.R_drewN | apply Kd.R_drew)); exact Kd.R_mono HO_10.out (fun _ hk => trivial)⟩, ⟨by repeat (first | (with_reducible first | exact HB.out | apply below_alloc | apply pw_below_drewN | apply below_drew1) | exact HB.out)⟩⟩
                        · rw [if_neg c54] at H
                          have c54b0 : (t170 == t143) = false := beq_eq_false_iff_ne.mpr c54
                          have c54b1 : (t170 != t143) = true := bne_iff_ne.mpr c54
                          (first | rw [c54b0] | (simp only [i64_w, i32_w]; rw [c54b0]) | skip)
                          have H' := Aside0.mk H
                          clear H
                          go_wp2
                          go_meet
                          case rel => exact ⟨_, (true), (by first | rfl | (simp; done) | (simp [*]; done)), H', ⟨by have := HJ7.out; have := HJ26.out; first | omega | exact Nat.le_refl _⟩, ⟨by (with_reducible repeat (first | apply Kd.R_alloc | apply Kd.R_drewN | apply Kd.R_drew)); exact Kd.R_mono HO_10.out (fun _ hk => trivial)⟩, ⟨by repeat (first | (with_reducible first | exact HB.out | apply below_alloc | apply pw_below_drewN | apply below_drew1) | exact HB.out)⟩⟩
                      case rest =>
                        clear HC48
                        try clear c1
                        try clear c2
                        try clear p2
                        try clear c3
                        try clear c3b0
                        try clear c3b1
                        try clear c4
                        try clear c5
                        try clear c10
                        try clear c11
                        try clear c12
                        try clear c13
                        try clear c14
                        try clear c15
                        try clear c15b0
                        try clear c15b1
                        try clear c17
                        try clear c22
                        try clear c25
                        try clear c31
                        try clear c31b0
                        try clear c32
                        try clear c32b0
                        try clear c32b1
                        try clear c34
                        try clear c39
                        try clear c42
                        try clear c42b0
                        try clear c45
                        try clear c45b0
                        try clear c45b1
                        try clear c54
                        try clear c54b0
                        try clear c54b1
                        try clear c56
                        try clear p2
                        obtain ⟨kq, x110_47, rfl, HA, HJ47, HO_10, HB⟩ := hcut
                        have hl10_47 := (Kd.R_reads' HO_10.out).1
                        rw [hl10_47] at HO_10
                        (try simp only [hl10_47])
                        cases kq with
                        | zero => exact absurd HA.out (by simp [laws_FnExactLeastWaste.j2])
                        | succ kj47 =>
                          have H := HA.out
                          clear HA
                          simp only [laws_FnExactLeastWaste.j2] at H
                          by_cases c61 : x110_47 = true
                          · subst c61
                            have H1 : (some false) = some r := by rw [if_pos rfl] at H; exact H
                            clear H
                            have H := H1
                            clear H1
                            obtain rfl := Option.some.inj H
                            go_wp2
                            go_ret
                            exact ⟨by first | rfl | (simp [errW_none, errW_some] <;> rfl) | (simp [*, errW_none, errW_some] <;> rfl), by repeat (first | (with_reducible first | exact HB.out | apply below_alloc | apply pw_below_drewN | apply below_drew1) | exact HB.out)⟩
                          · replace c61 := Bool.eq_false_iff.mpr c61
                            subst c61
                            have H1 : ((laws_heldIntS.f kj47 t165 1).bind fun t176 => (if t176 < 0 then (some false) else (if t176 = t164 then (some true) else (some false)))) = some r := by rw [if_neg (show ¬ (false = true) by decide)] at H; exact H
                            clear H
                            have H := H1
                            clear H1
                            replace H := Option.bind_eq_some_iff.mp H
                            obtain ⟨t176, A620, H⟩ := H
                            replace H : (if t176 < 0 then (some false) else (if t176 = t164 then (some true) else (some false))) = some r := H
                            have A62 := Aside0.mk A620
                            clear A620
                            by_cases c63 : t176 < 0
                            · rw [if_pos c63] at H
                              have c63b0 : decide (t176 < 0) = true := decide_eq_true c63
                              clear c63
                              obtain rfl := Option.some.inj H
                              go_wp2_with (first | ((with_reducible refine gate_callee (f := 15) rfl ?_); refine goesL_ (some 113) rfl rfl Try.func15 (by kernel_rfl) rfl #[.slice Ao49 t165.length co49, .int .i64 1] rfl (by (try simp only [List.map_toArray, List.map_cons, List.map_nil]); first | done | rfl | (simp only [List.length_drop, List.length_take]; rfl)) ?_; (with_reducible refine (laws_heldIntS.calls kj47 _ _ t165 1 t176 _ ?side1 ?side2 A62.out).mono ?_); (case side1 => repeat (first | exact (Kd.R_reads' HO_10.out).2.2 | (with_reducible refine Kd.C_alloc ?_ _) | (with_reducible refine Kd.C_drewN ?_ _) | (with_reducible refine Kd.C_drew ?_))); (case side2 => exact (Kd.R_reads' HO_10.out).2.1); rintro e w' ⟨rfl, ⟨nd, rfl⟩⟩; refine ⟨_, rfl, ?_⟩))
                              go_ret
                              exact ⟨by first | rfl | (simp [errW_none, errW_some] <;> rfl) | (simp [*, errW_none, errW_some] <;> rfl), by repeat (first | (with_reducible first | exact HB.out | apply below_alloc | apply pw_below_drewN | apply below_drew1) | exact HB.out)⟩
                            · rw [if_neg c63] at H
                              have c63b0 : decide (t176 < 0) = false := decide_eq_false c63
                              clear c63
                              by_cases c64 : t176 = t164
                              · rw [if_pos c64] at H
                                have c64b0 : (t176 == t164) = true := beq_iff_eq.mpr c64
                                have c64b1 : (t176 != t164) = false := bne_eq_false_iff_eq.mpr c64
                                clear c64
                                obtain rfl := Option.some.inj H
                                go_wp2_with (first | ((with_reducible refine gate_callee (f := 15) rfl ?_); refine goesL_ (some 113) rfl rfl Try.func15 (by kernel_rfl) rfl #[.slice Ao49 t165.length co49, .int .i64 1] rfl (by (try simp only [List.map_toArray, List.map_cons, List.map_nil]); first | done | rfl | (simp only [List.length_drop, List.length_take]; rfl)) ?_; (with_reducible refine (laws_heldIntS.calls kj47 _ _ t165 1 t176 _ ?side1 ?side2 A62.out).mono ?_); (case side1 => repeat (first | exact (Kd.R_reads' HO_10.out).2.2 | (with_reducible refine Kd.C_alloc ?_ _) | (with_reducible refine Kd.C_drewN ?_ _) | (with_reducible refine Kd.C_drew ?_))); (case side2 => exact (Kd.R_reads' HO_10.out).2.1); rintro e w' ⟨rfl, ⟨nd, rfl⟩⟩; refine ⟨_, rfl, ?_⟩))
                                go_ret
                                exact ⟨by first | rfl | (simp [errW_none, errW_some] <;> rfl) | (simp [*, errW_none, errW_some] <;> rfl), by repeat (first | (with_reducible first | exact HB.out | apply below_alloc | apply pw_below_drewN | apply below_drew1) | exact HB.out)⟩
                              · rw [if_neg c64] at H
                                have c64b0 : (t176 == t164) = false := beq_eq_false_iff_ne.mpr c64
                                have c64b1 : (t176 != t164) = true := bne_iff_ne.mpr c64
                                obtain rfl := Option.some.inj H
                                go_wp2_with (first | ((with_reducible refine gate_callee (f := 15) rfl ?_); refine goesL_ (some 113) rfl rfl Try.func15 (by kernel_rfl) rfl #[.slice Ao49 t165.length co49, .int .i64 1] rfl (by (try simp only [List.map_toArray, List.map_cons, List.map_nil]); first | done | rfl | (simp only [List.length_drop, List.length_take]; rfl)) ?_; (with_reducible refine (laws_heldIntS.calls kj47 _ _ t165 1 t176 _ ?side1 ?side2 A62.out).mono ?_); (case side1 => repeat (first | exact (Kd.R_reads' HO_10.out).2.2 | (with_reducible refine Kd.C_alloc ?_ _) | (with_reducible refine Kd.C_drewN ?_ _) | (with_reducible refine Kd.C_drew ?_))); (case side2 => exact (Kd.R_reads' HO_10.out).2.1); rintro e w' ⟨rfl, ⟨nd, rfl⟩⟩; refine ⟨_, rfl, ?_⟩))
                                go_ret
                                exact ⟨by first | rfl | (simp [errW_none, errW_some] <;> rfl) | (simp [*, errW_none, errW_some] <;> rfl), by repeat (first | (with_reducible first | exact HB.out | apply below_alloc | apply pw_below_drewN | apply below_drew1) | exact HB.out)⟩
                    · rw [if_neg c45] at H
                      have c45b0 : (t166 == t164) = false := beq_eq_false_iff_ne.mpr c45
                      have c45b1 : (t166 != t164) = true := bne_iff_ne.mpr c45
                      obtain rfl := Option.some.inj H
                      obtain ⟨Ao65, co65, eo65⟩ := Kd.R_slice HO_10.out
                      subst eo65
                      go_wp2_with (first | ((with_reducible refine gate_callee (f := 14) rfl ?_); refine goesL_ (some 80) rfl rfl Try.func14 (by kernel_rfl) rfl #[.slice Ao65 t152.length co65, .int .i64 1] rfl (by (try simp only [List.map_toArray, List.map_cons, List.map_nil]); first | done | rfl | (simp only [List.length_drop, List.length_take]; rfl)) ?_; (with_reducible refine (laws_markIntS.calls kj26 (fun k_ => some k_ = (.slice Ao65 t152.length co65 : Value).ownBlock) (.slice Ao65 t152.length co65) t152 1 t164 t165 w _ ?side1 ?side2 A40.out).mono ?_); (case side1 => repeat (first | (with_reducible first | exact HB.out | apply below_alloc | apply pw_below_drewN | apply below_drew1) | exact HB.out)); (case side2 => exact Kd.R_tight rfl HO_10.out); rintro e w66 ⟨rfl, hy0, hb, hkp⟩; refine ⟨_, rfl, ?_⟩; have n0_ := Aside0.mk (Kd.R_mono (ok' := fun k_ => some k_ ≠ (.slice Ao65 t152.length co65 : Value).ownBlock) (Kd.R_keptB (HO_6.out) hkp (fun k_ hk_ hs_ => (hk_) hs_)) (fun k_ hk_ => hk_.1)); have n1_ := Aside0.mk (Kd.R_reok rfl hy0 (fun k_ e_ => HO_10.out.1 k_ e_)); have n2_ := Aside0.mk (hb); clear HO_6; clear HO_10; clear HB; have HO_6 := n0_; have HO_10 := n1_; have HB := n2_; clear n0_ n1_ n2_; (try clear hb); (try clear hkp); (try clear hy0)) | ((with_reducible refine gate_callee (f := 15) rfl ?_); refine goesL_ (some 83) rfl rfl Try.func15 (by kernel_rfl) rfl #[.slice Ao65 t165.length co65, .int .i64 1] rfl (by (try simp only [List.map_toArray, List.map_cons, List.map_nil]); first | done | (rw [show t165.length = t152.length from (Kd.R_reads' HO_10.out).1.symm] <;> rfl) | rfl | (simp only [List.length_drop, List.length_take]; rfl)) ?_; (with_reducible refine (laws_heldIntS.calls kj26 _ _ t165 1 t166 _ ?side1 ?side2 A41.out).mono ?_); (case side1 => repeat (first | exact (Kd.R_reads' HO_10.out).2.2 | (with_reducible refine Kd.C_alloc ?_ _) | (with_reducible refine Kd.C_drewN ?_ _) | (with_reducible refine Kd.C_drew ?_))); (case side2 => rw [show t165.length = t152.length from (Kd.R_reads' HO_10.out).1.symm]; exact (Kd.R_reads' HO_10.out).2.1); rintro e w' ⟨rfl, ⟨nd, rfl⟩⟩; refine ⟨_, rfl, ?_⟩))
                      go_ret
                      exact ⟨by first | rfl | (simp [errW_none, errW_some] <;> rfl) | (simp [*, errW_none, errW_some] <;> rfl), by repeat (first | (with_reducible first | exact HB.out | apply below_alloc | apply pw_below_drewN | apply below_drew1) | exact HB.out)⟩
          · replace c25 := Bool.eq_false_iff.mpr c25
            subst c25
            have H1 : (some false) = some r := by rw [if_neg (show ¬ (false = true) by decide)] at H; exact H
            clear H
            have H := H1
            clear H1
            obtain rfl := Option.some.inj H
            go_wp2_with (first | ((with_reducible refine gate_callee (f := 11) rfl ?_); refine goesL_ (some 54) rfl rfl Try.func11 (by kernel_rfl) rfl #[.slice A1 l1.length c1] rfl (by (try simp only [List.map_toArray, List.map_cons, List.map_nil]); first | done | rfl | (simp only [List.length_drop, List.length_take]; rfl)) ?_; (with_reducible refine (laws_toIntS.calls kj7 _ _ l1 t157 _ ?side1 ?side2 A23.out).mono ?_); (case side1 => repeat (first | exact (Kd.C_below HR1.out HB.out) | (with_reducible refine Kd.C_alloc ?_ _) | (with_reducible refine Kd.C_drewN ?_ _) | (with_reducible refine Kd.C_drew ?_))); (case side2 => exact HC1.out); rintro e w67 ⟨v158, rfl, ho0, hb⟩; refine ⟨_, rfl, ?_⟩; have n0_ := Aside0.mk (Kd.R_elder' (by (with_reducible repeat (first | apply Kd.R_alloc | apply Kd.R_drewN | apply Kd.R_drew)); exact HO_6.out) (Kd.R_base ho0) hb); have n1_ := Aside0.mk (Kd.R_elder' (by (with_reducible repeat (first | apply Kd.R_alloc | apply Kd.R_drewN | apply Kd.R_drew)); exact HO_8.out) (Kd.R_base ho0) hb); have n2_ := Aside0.mk (Kd.R_elder' (by (with_reducible repeat (first | apply Kd.R_alloc | apply Kd.R_drewN | apply Kd.R_drew)); exact HO_10.out) (Kd.R_base ho0) hb); have n3_ := Aside0.mk (Kd.R_lower (Kd.R_new' (Kd.R_new' (Kd.R_new' ho0 (Kd.R_lt (by (with_reducible repeat (first | apply Kd.R_alloc | apply Kd.R_drewN | apply Kd.R_drew)); exact HO_6.out))) (Kd.R_lt (by (with_reducible repeat (first | apply Kd.R_alloc | apply Kd.R_drewN | apply Kd.R_drew)); exact HO_8.out))) (Kd.R_lt (by (with_reducible repeat (first | apply Kd.R_alloc | apply Kd.R_drewN | apply Kd.R_drew)); exact HO_10.out))) (below_size (by repeat (first | (with_reducible first | exact HB.out | apply below_alloc | apply pw_below_drewN | apply below_drew1) | exact HB.out)))); have n4_ := Aside0.mk (below_step (by repeat (first | (with_reducible first | exact HB.out | apply below_alloc | apply pw_below_drewN | apply below_drew1) | exact HB.out)) hb); clear HO_6; clear HO_8; clear HO_10; clear HB; have HO_6 := n0_; have HO_8 := n1_; have HO_10 := n2_; have HO159 := n3_; have HB := n4_; clear n0_ n1_ n2_ n3_ n4_; (try clear hb); (try clear hb2); (try clear hk); (try clear hi); (try clear ho0); obtain ⟨Ao68, co68, eo68⟩ := Kd.R_slice HO159.out; subst eo68) | ((with_reducible refine gate_callee (f := 13) rfl ?_); refine goesL_ (some 55) rfl rfl Try.func13 (by kernel_rfl) rfl #[.slice Ao13 t148.length co13, .slice Ao68 t157.length co68] rfl (by (try simp only [List.map_toArray, List.map_cons, List.map_nil]); first | done | rfl | (simp only [List.length_drop, List.length_take]; rfl)) ?_; (with_reducible refine (laws_eqIntS.calls kj7 _ _ t148 _ _ t157 false _ ?side1 ?side2 ?side3 ?side4 A24.out).mono ?_); (case side1 => repeat (first | exact (Kd.R_reads' HO_8.out).2.2 | (with_reducible refine Kd.C_alloc ?_ _) | (with_reducible refine Kd.C_drewN ?_ _) | (with_reducible refine Kd.C_drew ?_))); (case side2 => exact (Kd.R_reads' HO_8.out).2.1); (case side3 => repeat (first | exact (Kd.R_reads' HO159.out).2.2 | (with_reducible refine Kd.C_alloc ?_ _) | (with_reducible refine Kd.C_drewN ?_ _) | (with_reducible refine Kd.C_drew ?_))); (case side4 => exact (Kd.R_reads' HO159.out).2.1); rintro e w' ⟨rfl, ⟨nd, rfl⟩⟩; refine ⟨_, rfl, ?_⟩))
            go_ret
            exact ⟨by first | rfl | (simp [errW_none, errW_some] <;> rfl) | (simp [*, errW_none, errW_some] <;> rfl), by repeat (first | (with_reducible first | exact HB.out | apply below_alloc | apply pw_below_drewN | apply below_drew1) | exact HB.out)⟩

/-- THE ONE PURE STATEMENT of laws_FnExactLeastWaste: yours. -/
def laws_FnExactLeastWaste.Pure : Prop := ∀ (a0 : Int) (l1 : List Int), (Lit.int .i64 a0).wf = true → l1.length ≤ maxLen → l1.length * 8 ≤ 140737488351232 → (∀ x ∈ l1, (Lit.int .i64 x).wf = true) → ∃ k, laws_FnExactLeastWaste.f k a0 l1 = some true
theorem laws_FnExactLeastWaste.walk (P : laws_FnExactLeastWaste.Pure) (a0 : Int) (a1 : Option Addr) (len1 cap1 : Nat) (z1 : List Int) (w : World) (w0 : (Lit.int .i64 a0).wf = true) (w1 : (a1 = none ∧ len1 = 0 ∧ cap1 = 0 ∧ z1 = []) ∨ ∃ x, a1 = some x ∧ len1 ≤ cap1 ∧ cap1 ≤ maxLen ∧ z1.length = cap1 ∧ (∀ i, i < z1.length → w.cell? (x.add i) = some (.int .i64 (z1.getD i 0))) ∧ ∀ n ∈ z1, (Lit.int .i64 n).wf = true) (y1 : len1 * 8 ≤ 140737488351232) :
    Calls Try.prog 3 #[.int .i64 a0, .slice a1 len1 cap1] w fun e w' => e = .returned (.bool true) ∧ Below w.heap.size w w' := by
  obtain ⟨l1, rfl, hr1, hm1, hw1, hc1⟩ := ReadsInt.ofRowC w1
  obtain ⟨k, h⟩ := P a0 l1 w0 hm1 y1 hw1
  refine (laws_FnExactLeastWaste.calls k a0 _ _ l1 true w (Kd.C_of_reads (d := (0 : Int)) (h1 := fun _ => rfl) hr1) hc1 h).mono ?_
  rintro e w' ⟨rfl, hd⟩
  exact ⟨rfl, hd⟩

end Go.Proofs.Ytfhaclkjiolmjaa.Q
