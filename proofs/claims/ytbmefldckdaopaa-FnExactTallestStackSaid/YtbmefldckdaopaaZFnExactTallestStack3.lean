/-
  Part 3 of the proof of FnExactTallestStack: what Go functions that it reaches compute, each shown by a walk of its code, and plain laws on numbers and lists.
  CONDITIONS: each theorem's own, as stated.
-/
import Derived.Test.YtbmefldckdaopaaZFnExactTallestStack2
import Derived.Shelf.RegionOpen
import Derived.RangeFuncNested
import Derived.RangeFuncCalls
import Derived.Test.YtbmefldckdaopaaZFnExactTallestStack1
import Derived.Laws.EntriesVeiled
namespace Go.Proofs.Ytbmefldckdaopaa.Q
open Go.RowKit Go.Proofs.YtbmefldckdaopaaW.PrintWords Go.Proofs.YtbmefldckdaopaaW.PrintLast Go.Proofs.YtbmefldckdaopaaW.PrintMore
set_option linter.unusedVariables false
set_option linter.unusedSimpArgs false

abbrev Thing := S49
/-- A Thing as a value. -/
def valThing (x : Thing) : Value := .agg #[.int .i64 x.f0, .int .i64 x.f1, .int .i64 x.f2]

set_option maxHeartbeats 2000000 in
theorem index_Thing (g : Nat) (lb : Array Value) (p : Thing → Bool) (eg : ∀ args w, (callFunc g args).run Try.prog w = .ok (.enter g args) w)
    (A : Option Addr) (c : Nat) (xs : List Thing) (w : World) (hr : Kd.C k49 w A xs.length xs) (hc : xs.length ≤ c) (hp : PredOk g lb valThing p w) :
    Calls Try.prog 60 #[.slice A xs.length c, .func (.func g) #[] lb] w fun e w' => e = .returned (.int .i64 (idxF p xs)) ∧ Below w.heap.size w w' := by
  have hn : xs.length ≤ 9223372036854775807 := hr.2.1
  have HR := Aside0.mk hr
  clear hr
  go_enter Try.func60, Try.ntmps60
  go_wp2
  go_loopg [5, 8] xs.length (fun gg _ s8 wr => ∃ kk : Nat, kk ≤ xs.length ∧ xs.length - kk ≤ gg ∧ s8 = .int .i64 kk ∧ Aside0 (Below w.heap.size w wr) ∧ Aside0 (∀ j (hj : j < xs.length), j < kk → p xs[j] = false))
  case atStart => exact ⟨0, Nat.zero_le _, by omega, rfl, ⟨Below.refl _ w⟩, ⟨fun j _ hj => absurd hj (Nat.not_lt_zero _)⟩⟩
  case round =>
    obtain ⟨kk, hkk, hg, rfl, BW, AA⟩ := hrel
    by_cases hlt : kk < xs.length
    · have hltz : (kk : Int) < (xs.length : Int) := by omega
      obtain ⟨ad, e, l0, l1, l2⟩ := at_T49 HR.out (kk : Int) (by omega) (by omega)
      have e2 : rd_T49 xs (kk : Int) = xs[kk] := by simp [rd_T49, List.getD_eq_getElem?_getD, hlt]
      rw [e2] at l0 l1 l2
      replace l0 := (BW.out.cell (World.block_lt_of_cell? w _ l0)).trans l0
      replace l1 := (BW.out.cell (World.block_lt_of_cell? w _ l1)).trans l1
      replace l2 := (BW.out.cell (World.block_lt_of_cell? w _ l2)).trans l2
      simp only [Int.toNat_natCast] at l0 l1 l2
      have hcall := hp wr xs[kk] BW.out
      clear e2
      subst e
      have hhit := fun h => idxF_hit p xs kk hlt h AA.out
      have HH : Aside0 (p xs[kk] = true → idxF p xs = kk) := ⟨hhit⟩
      clear hhit
      generalize hy : xs[kk] = y at l0 l1 l2 hcall HH
      have B : Aside0 (xs[kk] = y) := ⟨hy⟩
      clear hy
      unfold valThing at hcall
      cases hq : p y with
      | true =>
        rw [hq] at hcall
        go_wp2_with (go_at_fn g; refine hcall.mono ?_; rintro e w' ⟨rfl, hb'⟩)
        go_ret
        exact ⟨ret_int (HH.out hq).symm, BW.out.trans (hb'.mono BW.out.size)⟩
      | false =>
        rw [hq] at hcall
        go_wp2_with (go_at_fn g; refine hcall.mono ?_; rintro e w' ⟨rfl, hb'⟩)
        go_roundg (xs.length - (kk + 1))
        case measure => omega
        case rel =>
          refine ⟨kk + 1, by omega, by omega, by go_num, ⟨BW.out.trans (hb'.mono BW.out.size)⟩, ⟨fun j hj hlt2 => ?_⟩⟩
          by_cases e : j = kk
          · subst e
            rw [B.out]; exact hq
          · exact AA.out j hj (by omega)
    · have hltz : ¬ (kk : Int) < (xs.length : Int) := by omega
      have : kk = xs.length := by omega
      go_wp2
      go_ret
      exact ⟨ret_int (idxF_miss p xs (fun j hj => AA.out j hj (by omega))).symm, BW.out⟩

theorem contains_Thing (g : Nat) (lb : Array Value) (p : Thing → Bool) (eg : ∀ args w, (callFunc g args).run Try.prog w = .ok (.enter g args) w)
    (A : Option Addr) (c : Nat) (xs : List Thing) (w : World) (hr : Kd.C k49 w A xs.length xs) (hc : xs.length ≤ c) (hp : PredOk g lb valThing p w) :
    Calls Try.prog 43 #[.slice A xs.length c, .func (.func g) #[] lb] w fun e w' => e = .returned (.bool (xs.any p)) ∧ Below w.heap.size w w' := by
  have hcon := index_Thing g lb p eg A c xs w hr hc hp
  have E := Aside0.mk (idxF_any p xs)
  clear hp hr
  generalize idxF p xs = r at hcon E
  go_enter Try.func43, Try.ntmps43
  go_wp2_with (go_at_call 60; refine hcon.mono ?_; rintro e w' ⟨rfl, hb'⟩)
  go_ret
  exact ⟨ret_bool E.out, hb'⟩

/-- Is this a thing that can be stacked? -/
def okThing (x : Thing) : Bool := (decide (1 ≤ x.f0) && decide (x.f0 ≤ 1000)) && (decide (0 ≤ x.f1) && decide (x.f1 ≤ 1000)) && (decide (1 ≤ x.f2) && decide (x.f2 ≤ 1000))

set_option maxHeartbeats 1000000 in
theorem areStackable_pred (w : World) : PredOk 44 #[] valThing (fun x => !okThing x) w := fun W x hb => by
  clear hb
  show Calls Try.prog 44 #[.agg #[.int .i64 x.f0, .int .i64 x.f1, .int .i64 x.f2]] W _
  obtain ⟨a, b, c⟩ := x
  have hB : Aside0 (∀ o, Below W.heap.size W (W.alloc o)) := ⟨fun o => (Below.refl _ W).alloc (Nat.le_refl _) _⟩
  go_enter Try.func44, Try.ntmps44
  go_wp2
  all_goals (go_ret; exact ⟨ret_bool (by simp_all [okThing]), hB.out _⟩)

def impl_AreStackable.f (l0 : List Thing) : Option Bool := some (decide (1 ≤ l0.length) && decide (l0.length ≤ 7) && l0.all okThing)

set_option maxHeartbeats 1000000 in
theorem impl_AreStackable.calls (A0 : Option Addr) (c0 : Nat) (l0 : List Thing) (r : Bool) (w : World) (hr0 : Kd.C k49 w A0 l0.length l0) (hc0 : l0.length ≤ c0) (h : impl_AreStackable.f l0 = some r) :
    Calls Try.prog 15 #[.slice A0 l0.length c0] w fun e w' => e = .returned (.bool r) ∧ Below w.heap.size w w' := by
  have hn : l0.length ≤ 9223372036854775807 := hr0.2.1
  have hcon := contains_Thing 44 #[] (fun x => !okThing x) (enters_of Try.func44 (by kernel_rfl) rfl) A0 c0 l0 w hr0 hc0 (areStackable_pred w)
  have E : Aside0 ((decide (1 ≤ l0.length) && decide (l0.length ≤ 7) && !l0.any fun x => !okThing x) = r) := ⟨by
    injection h with h
    rw [← h, List.any_eq_not_all_not]
    simp⟩
  clear h hr0
  generalize (l0.any fun x => !okThing x) = q at hcon E
  by_cases c1 : 1 ≤ l0.length
  · by_cases c2 : l0.length ≤ 7
    · have c1z : decide ((1 : Int) ≤ (l0.length : Int)) = true := decide_eq_true (by omega)
      have c2z : decide ((l0.length : Int) ≤ 7) = true := decide_eq_true (by omega)
      go_enter Try.func15, Try.ntmps15
      go_wp2_with (first | (go_at_call 43; refine hcon.mono ?_; rintro e w' ⟨rfl, hb'⟩) | go_in)
      go_ret
      exact ⟨ret_bool (by rw [← E.out]; simp [c1, c2]), hb'⟩
    · go_enter Try.func15, Try.ntmps15
      go_wp2
      go_ret
      exact ⟨ret_bool (by rw [← E.out]; simp [c2]), Below.refl _ _⟩
  · go_enter Try.func15, Try.ntmps15
    go_wp2
    go_ret
    exact ⟨ret_bool (by rw [← E.out]; simp [c1]), Below.refl _ _⟩
end Go.Proofs.Ytbmefldckdaopaa.Q

namespace Go.Proofs.Ytbmefldckdaopaa.Q
open Go.RowKit Go.Shelf Go.Proofs.YtbmefldckdaopaaW.PrintWords Go.Proofs.YtbmefldckdaopaaW.PrintLast Go.Proofs.YtbmefldckdaopaaW.PrintMore
set_option linter.unusedVariables false
set_option linter.unusedSimpArgs false
attribute [local go_sem] Oper.semAt_some

/-- A block that holds whole numbers, each its cell. -/
def Nums (W : World) (g : Nat) (xs : List Int) : Prop := W.heap[g]? = some (.cells ((xs.map (Value.int .i64)).toArray) 3 (0, 0))
theorem Nums.lt {W : World} {g : Nat} {xs : List Int} (h : Nums W g xs) : g < W.heap.size := (Array.getElem?_eq_some_iff.1 h).1
theorem Nums.cell {W : World} {g : Nat} {xs : List Int} (h : Nums W g xs) (i : Nat) (hi : i < xs.length) : W.cell? ⟨g, i, none⟩ = some (.int .i64 xs[i]) := by
  unfold Nums at h
  simp [World.cell?, h, hi]
theorem Nums.frozen {W : World} {g : Nat} {xs : List Int} (h : Nums W g xs) (i : Nat) : W.frozen? ⟨g, i, none⟩ = false := by
  unfold Nums at h
  simp [World.frozen?, h]
theorem Nums.set_ {W : World} {g : Nat} {xs : List Int} (h : Nums W g xs) (i : Nat) (u : Int) : Nums (W.setCell ⟨g, i, none⟩ (.int .i64 u)) g (xs.set i u) := by
  unfold Nums at h ⊢
  simp only [World.setCell, Array.getElem?_modify, h]
  simp [List.map_set]
theorem Nums.far {W : World} {g : Nat} {xs : List Int} (h : Nums W g xs) {p : Addr} (hp : g ≠ p.block) (u : Value) : Nums (W.setCell p u) g xs := (Below.heap_setCell W p u g hp).trans h
theorem Nums.alloc {W : World} {g : Nat} {xs : List Int} (h : Nums W g xs) (o : Obj) : Nums (W.alloc o) g xs := (Below.heap_alloc W o g h.lt).trans h
theorem Nums.kept {W W' : World} {row : Option Nat} {g : Nat} {xs : List Int} (h : Nums W g xs) (hg : W.grownBy W' row) (hne : some g ≠ row) : Nums W' g xs := (hg.block g h.lt hne).trans h
theorem Nums.own {W : World} {g base : Nat} {xs : List Int} (h : Nums W g xs) (hb : base ≤ g) (hm : xs.length ≤ maxLen) : W.ownsRow base 3 1 (.slice (some ⟨g, 0, none⟩) xs.length xs.length) xs.length (encs (Value.int .i64) xs) :=
  ⟨by simp [encs], .inr ⟨g, xs.length, _, rfl, hb, h, Nat.le_refl _, hm, by simp, by simp [encs, List.take_of_length_le]⟩⟩

/-- The weights above the places of a stack, and of all of it. -/
def aboveAll (list : List Thing) : List Int → List Int × Int
  | [] => ([], 0)
  | i :: st => (((aboveAll list st).2 :: (aboveAll list st).1), wrap64 ((aboveAll list st).2 + (rd_T49 list i).f0))
theorem aboveAll_length (list : List Thing) (st : List Int) : (aboveAll list st).1.length = st.length := by
  induction st with
  | nil => rfl
  | cons i st ih => simp [aboveAll, ih]
/-- Does a list name things, not too many? -/
def things (list : List Thing) (st : List Int) : Bool := decide (st.length ≤ 1000000000) && st.all (fun i => decide (0 ≤ i) && decide (i < (list.length : Int)))
def impl_above.f (l0 : List Thing) (l1 : List Int) : Option (List Int) := if things l0 l1 = true then some (aboveAll l0 l1).1 else none

/-- Behind k rounds: zeros ahead, then the weights above the last k places. -/
def aboveUpto (list : List Thing) (st : List Int) (m : Nat) : List Int := List.replicate m 0 ++ (aboveAll list (st.drop m)).1
theorem aboveUpto_step (list : List Thing) (st : List Int) (m : Nat) (h : m < st.length) : (aboveUpto list st (m + 1)).set m (aboveAll list (st.drop (m + 1))).2 = aboveUpto list st m := by
  unfold aboveUpto
  rw [List.drop_eq_getElem_cons h, aboveAll, List.replicate_succ', List.append_assoc, List.set_append_right _ _ (by simp)]
  simp
theorem aboveUpto_length (list : List Thing) (st : List Int) (m : Nat) (h : m ≤ st.length) : (aboveUpto list st m).length = st.length := by
  unfold aboveUpto
  simp [aboveAll_length]; omega
theorem aboveAll_drop (list : List Thing) (st : List Int) (m : Nat) (h : m < st.length) : (aboveAll list (st.drop m)).2 = wrap64 ((aboveAll list (st.drop (m + 1))).2 + (rd_T49 list (st.getD m 0)).f0) := by
  rw [List.drop_eq_getElem_cons h, aboveAll]
  simp [List.getD_eq_getElem?_getD, h]

theorem madeNums (n : Nat) : madeCells #[.int .i64 0] n = ((List.replicate n (0 : Int)).map (Value.int .i64)).toArray := by
  apply Array.ext
  · simp [madeCells]
  · intro i h1 h2
    simp [madeCells, Nat.mod_one]

/-- One round: a place and a thing. -/
def abStep (list : List Thing) (s : List Int × Int) (x : Nat × Int) : List Int × Int := (s.1.set x.1 s.2, wrap64 (s.2 + (rd_T49 list x.2).f0))
/-- What the body may be handed. -/
abbrev Place (list : List Thing) (st : List Int) : Type := { x : Nat × Int // (x.1 < st.length ∧ 0 ≤ x.2 ∧ x.2 < (list.length : Int)) ∨ st.length = 0 }
theorem place_back (list : List Thing) (st : List Int) (h : ∀ x ∈ st, 0 ≤ x ∧ x < (list.length : Int)) (k : Nat) (hk : k < st.length) : (backAt st k).1 < st.length ∧ 0 ≤ (backAt st k).2 ∧ (backAt st k).2 < (list.length : Int) := by
  unfold backAt
  have hlt : st.length - 1 - k < st.length := by omega
  refine ⟨hlt, ?_⟩
  have := h (st.getD (st.length - 1 - k) 0) (by rw [List.getD_eq_getElem?_getD, List.getElem?_eq_getElem hlt]; exact List.getElem_mem hlt)
  exact this
def placeAt (list : List Thing) (st : List Int) (h : ∀ x ∈ st, 0 ≤ x ∧ x < (list.length : Int)) (k : Nat) : Place list st :=
  if hk : k < st.length then ⟨backAt st k, .inl (place_back list st h k hk)⟩ else if h0 : 0 < st.length then ⟨backAt st 0, .inl (place_back list st h 0 h0)⟩ else ⟨(0, 0), .inr (by omega)⟩
theorem placeAt_val (list : List Thing) (st : List Int) (h : ∀ x ∈ st, 0 ≤ x ∧ x < (list.length : Int)) (k : Nat) (hk : k < st.length) : (placeAt list st h k).1 = backAt st k := by
  unfold placeAt
  rw [dif_pos hk]
def abRun (list : List Thing) (n : Nat) (pre : List (Nat × Int)) : List Int × Int := pre.foldl (abStep list) (List.replicate n 0, 0)
theorem abRun_length (list : List Thing) (n : Nat) (pre : List (Nat × Int)) : (abRun list n pre).1.length = n := by
  unfold abRun
  suffices ∀ s : List Int × Int, s.1.length = n → (pre.foldl (abStep list) s).1.length = n from this _ (by simp)
  induction pre with
  | nil => exact fun s h => h
  | cons x pre ih => exact fun s h => ih _ (by simp [abStep, h])
theorem abRun_snoc (list : List Thing) (n : Nat) (pre : List (Nat × Int)) (x : Nat × Int) : abRun list n (pre ++ [x]) = abStep list (abRun list n pre) x := by simp [abRun]
theorem abRun_all (list : List Thing) (st : List Int) : ∀ k, k ≤ st.length → abRun list st.length (upto (backAt st) k) = (aboveUpto list st (st.length - k), (aboveAll list (st.drop (st.length - k))).2) := by
  intro k
  induction k with
  | zero => intro _; simp [abRun, upto, aboveUpto, aboveAll]
  | succ k ih =>
    intro hk
    rw [upto_succ, abRun_snoc, ih (by omega)]
    have hlt : st.length - (k + 1) < st.length := by omega
    have e : st.length - k = (st.length - (k + 1)) + 1 := by omega
    unfold abStep backAt
    rw [show st.length - 1 - k = st.length - (k + 1) by omega]
    simp only
    rw [e, aboveUpto_step list st _ hlt, aboveAll_drop list st _ hlt]
theorem abRun_end (list : List Thing) (st : List Int) : (abRun list st.length (upto (backAt st) st.length)).1 = (aboveAll list st).1 := by
  rw [abRun_all list st st.length (Nat.le_refl _)]
  simp [aboveUpto]

set_option maxRecDepth 100000 in
set_option maxHeartbeats 4000000 in
theorem above_in (F : Fence) (n : Nat) (hA : F.fn 75) (hB : F.fn 77) (hB1 : F.fn 79) (hro : F.round = none) (hn3 : 3 ≤ n)
    (A0 : Option Addr) (c0 : Nat) (l0 : List Thing) (A1 : Option Addr) (c1 : Nat) (l1 : List Int) (r : List Int) (w : World) (hr0 : Kd.C k49 w A0 l0.length l0) (hc0 : l0.length ≤ c0) (hr1 : Kd.C (Kd.int .i64) w A1 l1.length l1) (hc1 : l1.length ≤ c1)
    (hn : l1.length ≤ 1000000000) (hin : ∀ x ∈ l1, 0 ≤ x ∧ x < (l0.length : Int)) (hre : r = (aboveAll l0 l1).1) :
    CallsIn F n Try.prog 75 #[.slice A0 l0.length c0, .slice A1 l1.length c1] w fun e w' => ∃ v0_ : Value, e = .returned (v0_) ∧ Kd.R (Kd.int .i64) 3 w' w.heap.size (fun _ => True) v0_ r ∧ Below w.heap.size w w' := by
  have h1 : 1 ≤ n := by omega
  obtain ⟨i0, hi, hz0, hz1, hz2⟩ := info_parts info3
  have hmk : ∀ W, (Instr.makeSlice 41 (.int .i64 (l1.length : Int)) (.int .i64 (l1.length : Int))).run Try.prog W = .ok (.slice (some ⟨W.heap.size, 0, none⟩) l1.length l1.length) (W.alloc (.cells (Array.replicate l1.length (.int .i64 0)) 3)) := fun W => by
    rw [run_make W 41 3 i0 _ Try.underlying41 hi hz0 .i64 .i64 (l1.length : Int) (l1.length : Int) (by omega) (by omega) (by rw [hz2]; omega) (by omega), hz1]
    rw [show ((Value.int IntKind.i64 0).cells : Array Value) = #[.int .i64 0] from rfl, Int.toNat_natCast, Nat.mul_one, madeNums]
    simp
  clear hi hz0 hz1 hz2
  have HRE := Aside0.mk hre
  have HIN := Aside0.mk hin
  have HR0 := Aside0.mk hr0
  have HR1 := Aside0.mk hr1
  clear hre hin hr0 hr1
  refine callsIn_of_wp_marks Try.func75 rfl hA ?_ hro
  simp only [Try.ntmps75, List.size_toArray, List.length_cons, List.length_nil, Nat.reduceAdd, Nat.reduceSub, Array.replicate_succ, Array.replicate_zero, List.push_toArray, List.append_toArray, List.nil_append, List.cons_append]
  gi_wp2_with (gi_at_call 77; refine (back_in F (n - 1) hB hro _ _ _ _).mono ?_; rintro e w' ⟨rfl, rfl⟩)
  clear hmk
  have bL := Boxed.new w 25 (.slice A0 l0.length c0)
  obtain ⟨W1, hW1⟩ : ∃ W1, w.alloc (.cells #[.slice A0 l0.length c0] 25) = W1 := ⟨_, rfl⟩
  have z1 : W1.heap.size = w.heap.size + 1 := by rw [← hW1]; simp
  have b1 : Below w.heap.size w W1 := by rw [← hW1]; exact (Below.refl _ w).alloc (Nat.le_refl _) _
  rw [hW1] at bL ⊢
  have bR : Nums (W1.alloc (.cells (Array.replicate l1.length (.int .i64 0)) 3)) W1.heap.size (List.replicate l1.length 0) := by
    have := heap_alloc_new W1 (.cells (Array.replicate l1.length (.int .i64 0)) 3)
    unfold Nums
    simpa using this
  obtain ⟨W2, hW2⟩ : ∃ W2, W1.alloc (.cells (Array.replicate l1.length (.int .i64 0)) 3) = W2 := ⟨_, rfl⟩
  have z2 : W2.heap.size = w.heap.size + 1 + 1 := by rw [← hW2]; simp; omega
  have b2 : Below w.heap.size w W2 := by rw [← hW2]; exact b1.alloc (by omega) _
  have bL2 := bL.alloc (.cells (Array.replicate l1.length (.int .i64 0)) 3)
  rw [hW2] at bL2 bR ⊢
  rw [z1] at bR
  have bO := Boxed.new W2 41 (.slice (some ⟨w.heap.size + 1, 0, none⟩) l1.length l1.length)
  obtain ⟨W3, hW3⟩ : ∃ W3, W2.alloc (.cells #[.slice (some ⟨w.heap.size + 1, 0, none⟩) l1.length l1.length] 41) = W3 := ⟨_, rfl⟩
  have z3 : W3.heap.size = w.heap.size + 1 + 1 + 1 := by rw [← hW3]; simp; omega
  have b3 : Below w.heap.size w W3 := by rw [← hW3]; exact b2.alloc (by omega) _
  have bL3 := bL2.alloc (.cells #[.slice (some ⟨w.heap.size + 1, 0, none⟩) l1.length l1.length] 41)
  have bR3 := bR.alloc (.cells #[.slice (some ⟨w.heap.size + 1, 0, none⟩) l1.length l1.length] 41)
  rw [hW3] at bL3 bR3 bO ⊢
  rw [z2] at bO
  have bA := Boxed.new W3 3 (.int .i64 0)
  obtain ⟨W4, hW4⟩ : ∃ W4, W3.alloc (.cells #[.int .i64 0] 3) = W4 := ⟨_, rfl⟩
  have z4 : W4.heap.size = w.heap.size + 1 + 1 + 1 + 1 := by rw [← hW4]; simp; omega
  have b4 : Below w.heap.size w W4 := by rw [← hW4]; exact b3.alloc (by omega) _
  have bL4 := bL3.alloc (.cells #[.int .i64 0] 3)
  have bR4 := bR3.alloc (.cells #[.int .i64 0] 3)
  have bO4 := bO.alloc (.cells #[.int .i64 0] 3)
  rw [hW4] at bL4 bR4 bO4 bA ⊢
  rw [z3] at bA
  have bS := Boxed.new W4 41 (.slice A1 l1.length c1)
  obtain ⟨W5, hW5⟩ : ∃ W5, W4.alloc (.cells #[.slice A1 l1.length c1] 41) = W5 := ⟨_, rfl⟩
  have z5 : W5.heap.size = w.heap.size + 1 + 1 + 1 + 1 + 1 := by rw [← hW5]; simp; omega
  have b5 : Below w.heap.size w W5 := by rw [← hW5]; exact b4.alloc (by omega) _
  have b45 : Below W4.heap.size W4 W5 := by rw [← hW5]; exact (Below.refl _ W4).alloc (Nat.le_refl _) _
  have bL5 := bL4.alloc (.cells #[.slice A1 l1.length c1] 41)
  have bR5 := bR4.alloc (.cells #[.slice A1 l1.length c1] 41)
  have bO5 := bO4.alloc (.cells #[.slice A1 l1.length c1] 41)
  have bA5 := bA.alloc (.cells #[.slice A1 l1.length c1] 41)
  rw [hW5] at bL5 bR5 bO5 bA5 bS ⊢
  rw [z4] at bS
  clear bL bL2 bL3 bL4 bR bR3 bR4 bO bO4 bA hW1 hW2 hW3 hW4 hW5 b1 b2 b3 b4 b45
  refine wpIn_rangeFunc_ownF hro h1 (gf := 79) (lb := #[.pointer (some ⟨w.heap.size + 1 + 1 + 1 + 1, 0, none⟩)]) rfl hB1 (enters_of Try.func79 (by kernel_rfl) rfl)
    (back_stops (fun x : Place l0 l1 => x.1) (placeAt l0 l1 HIN.out) F (n - 1) hB1 hro (by omega) (w.heap.size + 1 + 1 + 1 + 1) w.heap.size A1 c1 l1 (fun k hk => placeAt_val l0 l1 HIN.out k hk) W5 (by omega) (by omega) bS.cell (fun W' hb => Kd.C_below HR1.out (b5.trans hb))) KpB.trans (KpB.put (by omega) (by omega)) (Below.refl _ _) (fun _ => rfl)
    (fun pre W => (Boxed W w.heap.size 25 (.slice A0 l0.length c0) ∧ Boxed W (w.heap.size + 1 + 1) 41 (.slice (some ⟨w.heap.size + 1, 0, none⟩) l1.length l1.length) ∧ Boxed W (w.heap.size + 1 + 1 + 1) 3 (.int .i64 (abRun l0 l1.length (pre.map (·.1))).2) ∧ Nums W (w.heap.size + 1) (abRun l0 l1.length (pre.map (·.1))).1) ∧ Below w.heap.size w W)
    (fun _ _ _ => False)
    (OwnFrom.and (Own.from (fun s A B row hs hg hr => by
      have hne : ∀ b t v, Boxed A b t v → some b ≠ row := fun b t v hbx e' => by obtain ⟨o, ho, hc⟩ := hr b e'.symm; rw [show A.heap[b]? = _ from hbx] at ho; cases ho; cases hc
      have hne2 : ∀ b v, Nums A b v → some b ≠ row := fun b v hbx e' => by obtain ⟨o, ho, hc⟩ := hr b e'.symm; rw [show A.heap[b]? = _ from hbx] at ho; cases ho; cases hc
      exact ⟨hs.1.kept hg (hne _ _ _ hs.1), hs.2.1.kept hg (hne _ _ _ hs.2.1), hs.2.2.1.kept hg (hne _ _ _ hs.2.2.1), hs.2.2.2.kept hg (hne2 _ _ hs.2.2.2)⟩) _) (ownFrom_below (Nat.le_refl _) (by omega)))
    (fun _ _ _ _ _ hs _ _ => hs)
    ⟨⟨bL5, bO5, bA5, bR5⟩, b5⟩
    (fun x => { tmps := #[.slice A0 l0.length c0, .slice A1 l1.length c1, .pointer (some ⟨w.heap.size, 0, none⟩), undef, .slice none 0 0, .pointer (some ⟨w.heap.size + 1 + 1, 0, none⟩), .pointer (some ⟨w.heap.size + 1 + 1 + 1, 0, none⟩), .int .i64 (x.1.1 : Int), .int .i64 x.1.2, .slice A1 l1.length c1, .int .i64 (l1.length : Int), .slice (some ⟨w.heap.size + 1, 0, none⟩) l1.length l1.length, .slice A1 l1.length c1, .func (.func 79) #[] #[.pointer (some ⟨w.heap.size + 1 + 1 + 1 + 1, 0, none⟩)], .int .i64 (x.1.1 : Int), .int .i64 x.1.2, undef, undef, undef, undef, undef, undef, undef, undef, undef, undef, undef, undef], defers := [] }) ?assign ?body ?done ?stop
  case assign =>
    intro l x W K hK
    gi_wp2
    exact hK
  case body =>
    rintro l pre x W ⟨⟨hL, hO, hAl, hR⟩, hBe⟩ hpre
    have hp' : x.1.1 < l1.length ∧ 0 ≤ x.1.2 ∧ x.1.2 < (l0.length : Int) := by
      rcases x.2 with hp | hp
      · exact hp
      · omega
    obtain ⟨p1, p2, p3⟩ := hp'
    clear hpre
    have hst : abRun l0 l1.length ((pre ++ [x]).map (·.1)) = abStep l0 (abRun l0 l1.length (pre.map (·.1))) x.1 := by rw [List.map_append, List.map_cons, List.map_nil, abRun_snoc]
    have hlen := abRun_length l0 l1.length (pre.map (·.1))
    obtain ⟨ad, e, c0_, _, _⟩ := at_T49 (Kd.C_below HR0.out hBe) x.1.2 p2 p3
    subst e
    unfold abStep at hst
    have HST := Aside0.mk hst
    clear hst
    generalize abRun l0 l1.length (pre.map (·.1)) = s at *
    obtain ⟨so, sa⟩ := s
    simp only at hAl hR hlen HST
    have g1 := hL.cell
    have g2 := hO.cell
    have g3 := hAl.cell
    have g4 := hAl.frozen
    obtain ⟨u5, g5⟩ : ∃ u, W.cell? ⟨w.heap.size + 1, x.1.1, none⟩ = some (.int .i64 u) := ⟨_, hR.cell x.1.1 (by omega)⟩
    have g6 := hR.frozen x.1.1
    have p4 : (x.1.1 : Int) < (l1.length : Int) := by omega
    have HL := Aside0.mk hL; have HO := Aside0.mk hO; have HA := Aside0.mk hAl; have HN := Aside0.mk hR; have HBE := Aside0.mk hBe; have HLN := Aside0.mk hlen
    clear hL hO hAl hR hBe hlen
    gi_wp2
    have hg1 : W.grownBy (W.setCell ⟨w.heap.size + 1, x.1.1, none⟩ (.int .i64 sa)) (some (w.heap.size + 1)) := ⟨rfl, rfl, rfl, by simp [World.setCell], fun k _ hk => Below.heap_setCell _ _ _ k (fun e => hk (by rw [e]))⟩
    have HL1 := Aside0.mk (HL.out.kept hg1 (by simp <;> omega))
    have HO1 := Aside0.mk (HO.out.kept hg1 (by simp <;> omega))
    have HA1 := Aside0.mk (HA.out.kept hg1 (by simp <;> omega))
    have HN1 := Aside0.mk (HN.out.set_ x.1.1 sa)
    have HB1 : Aside0 (Below w.heap.size w (W.setCell ⟨w.heap.size + 1, x.1.1, none⟩ (.int .i64 sa))) := ⟨HBE.out.setCell (p := ⟨w.heap.size + 1, x.1.1, none⟩) (by simp) _⟩
    have HK1 : Aside0 (KeepsOthers W (W.setCell ⟨w.heap.size + 1, x.1.1, none⟩ (.int .i64 sa)) ∧ KpB w.heap.size (w.heap.size + 1 + 1 + 1 + 1) W (W.setCell ⟨w.heap.size + 1, x.1.1, none⟩ (.int .i64 sa))) := ⟨KeepsOthers.setCell _ _ _, (Below.refl w.heap.size W).setCell (p := ⟨w.heap.size + 1, x.1.1, none⟩) (by simp <;> omega) _, Below.heap_setCell _ _ _ _ (by simp <;> omega)⟩
    generalize W.setCell ⟨w.heap.size + 1, x.1.1, none⟩ (.int .i64 sa) = V at *
    clear g1 g2 g3 g4 g5 g6 c0_ hg1
    obtain ⟨ad', e', c0_, _, _⟩ := at_T49 (Kd.C_below HR0.out HB1.out) x.1.2 p2 p3
    obtain rfl : ad = ad' := by injection e'
    have hmix : Try.prog.follows .mixedOrders = true := by kernel_rfl
    have g1 := HL1.out.cell
    have g3 := HA1.out.cell
    have g4 := HA1.out.frozen
    gi_region_with_o (fail)
    all_goals gi_wp2
    all_goals (try go_bits)
    all_goals
      have HS := HST.out
      refine ⟨(HK1.out.1.trans (KeepsOthers.setCell _ _ _)).trans (KeepsOthers.drew _), HK1.out.2.trans ⟨((Below.refl w.heap.size V).setCell (p := ⟨w.heap.size + 1 + 1 + 1, 0, none⟩) (by simp; omega) _).drew, Below.heap_setCell _ _ _ _ (by simp <;> omega)⟩,
        ⟨HL1.out.other (by omega) _, HO1.out.other (by omega) _, by rw [HS]; exact HA1.out.set _, by rw [HS]; exact HN1.out.far (by simp) _⟩, (HB1.out.setCell (p := ⟨w.heap.size + 1 + 1 + 1, 0, none⟩) (by simp; omega) _).drew⟩
  case done =>
    rintro D ys W hD hys ⟨⟨hL, hO, hAl, hR⟩, hBe⟩ hK
    have g2 := hO.cell
    gi_wp2
    refine ⟨by simp, .inl ⟨_, _, rfl, run_takeDeferred hK, ?_⟩⟩
    have hmap : ys.map (·.1) = upto (backAt l1) l1.length := by
      rw [hys]
      unfold upto
      rw [List.map_map]
      exact List.map_congr_left fun k hk => placeAt_val l0 l1 HIN.out k (by simpa using hk)
    have hl := abRun_length l0 l1.length (ys.map (·.1))
    rw [hmap] at hR hl
    have hown := hR.own (base := w.heap.size) (by omega) (by rw [hl]; unfold maxLen; omega)
    rw [hl, abRun_end] at hown
    refine ⟨_, results_tmp rfl _ _ _, _, rfl, ?_, hBe.trans (belowK_b (w := w) (Nat.le_refl _) W D _ _ (by omega) hK rfl rfl)⟩
    rw [HRE.out]
    have hlen2 : (aboveAll l0 l1).1.length = l1.length := aboveAll_length l0 l1
    exact Kd.R_of_own (by rw [hlen2]; exact ownsRow_putObj hown _ hK rfl) (fun _ _ => trivial)
  case stop =>
    rintro D c pre W _ _ h _
    exact h.elim

theorem impl_above.calls (A0 : Option Addr) (c0 : Nat) (l0 : List Thing) (A1 : Option Addr) (c1 : Nat) (l1 : List Int) (r : List Int) (w : World) (hr0 : Kd.C k49 w A0 l0.length l0) (hc0 : l0.length ≤ c0) (hr1 : Kd.C (Kd.int .i64) w A1 l1.length l1) (hc1 : l1.length ≤ c1) (h : impl_above.f l0 l1 = some r) :
    Calls Try.prog 75 #[.slice A0 l0.length c0, .slice A1 l1.length c1] w fun e w' => ∃ v0_ : Value, e = .returned (v0_) ∧ Kd.R (Kd.int .i64) 3 w' w.heap.size (fun _ => True) v0_ r ∧ Below w.heap.size w w' := by
  have hth : things l0 l1 = true := by
    unfold impl_above.f at h
    split at h
    · assumption
    · cases h
  have hre : r = (aboveAll l0 l1).1 := by
    unfold impl_above.f at h
    rw [if_pos hth] at h
    injection h with h
    exact h.symm
  unfold things at hth
  simp only [Bool.and_eq_true, decide_eq_true_eq, List.all_eq_true] at hth
  exact (callsIn_wide (n := 5)).1 (above_in Fence.wide 5 trivial trivial trivial rfl (by omega) A0 c0 l0 A1 c1 l1 r w hr0 hc0 hr1 hc1 hth.1 hth.2 hre)
end Go.Proofs.Ytbmefldckdaopaa.Q

namespace Go.Proofs.Ytbmefldckdaopaa.Q
open Go.RowKit Go.Proofs.YtbmefldckdaopaaW.PrintWords Go.Proofs.YtbmefldckdaopaaW.PrintLast Go.Proofs.YtbmefldckdaopaaW.PrintMore
attribute [local go_sem] max2_int min2_int max_two min_two max_three min_three max_four min_four   -- for this text's walks alone
set_option linter.unusedVariables false
set_option linter.unusedSimpArgs false

/-! ### impl_bearsMore: function 71 -/
def impl_bearsMore.l0 : Nat → List (S49) → List Int → Int → List Int → Int → Int → Option (Int)
  | 0, _, _, _, _, _, _ => none
  | k + 1, x0, x1, x5, x10, x11, x12 => if x12 < x11 then (if 0 ≤ x12 then (if x12 < (x10.length : Int) then (if x12 < (x1.length : Int) then (if 0 ≤ (rd x1 x12) then (if (rd x1 x12) < (x0.length : Int) then (impl_bearsMore.l0 k x0 x1 (mn x5 (wrap64 (((rd_T49 x0 (rd x1 x12)).f1) - (rd x10 x12)))) x10 x11 (wrap64 (x12 + 1))) else (none)) else (none)) else (none)) else (none)) else (none)) else (some x5)
def impl_bearsMore.f (k : Nat) (l0 : List (S49)) (l1 : List Int) : Option (Int) := (impl_above.f l0 l1).bind fun t251 => (impl_bearsMore.l0 k l0 l1 1000 t251 (t251.length : Int) 0)
theorem impl_bearsMore.mono_l : ∀ k, (∀ y0 y1 y2 y3 y4 y5, LeO (impl_bearsMore.l0 k y0 y1 y2 y3 y4 y5) (impl_bearsMore.l0 (k + 1) y0 y1 y2 y3 y4 y5))
  | 0 => fun _ _ _ _ _ _ r h => by simp [impl_bearsMore.l0] at h
  | k + 1 => by
    have ih0 := impl_bearsMore.mono_l k
    · intro y0 y1 y2 y3 y4 y5
      unfold impl_bearsMore.l0
      repeat' first
      | (with_reducible exact ih0 _ _ _ _ _ _)
      | (with_reducible exact LeO.refl _)
      | (with_reducible exact LeO.none _)
      | (with_reducible refine LeO.ite ?_ ?_)
      | (with_reducible refine LeO.bind ?_ (fun _ => ?_))
      | exact ih0 _ _ _ _ _ _
      | exact LeO.none _
      | refine LeO.ite ?_ ?_
      | refine LeO.bind ?_ (fun _ => ?_)
theorem impl_bearsMore.mono : ∀ a0 a1 k, LeO (impl_bearsMore.f k a0 a1) (impl_bearsMore.f (k + 1) a0 a1) := by
  intro a0 a1 k
  have ih0 := impl_bearsMore.mono_l k
  unfold impl_bearsMore.f
  repeat' first
      | (with_reducible exact ih0 _ _ _ _ _ _)
      | (with_reducible exact LeO.refl _)
      | (with_reducible exact LeO.none _)
      | (with_reducible refine LeO.ite ?_ ?_)
      | (with_reducible refine LeO.bind ?_ (fun _ => ?_))
      | exact ih0 _ _ _ _ _ _
      | exact LeO.none _
      | refine LeO.ite ?_ ?_
      | refine LeO.bind ?_ (fun _ => ?_)
set_option maxHeartbeats 8000000 in
set_option maxRecDepth 100000 in
theorem impl_bearsMore.calls (k : Nat) (A0 : Option Addr) (c0 : Nat) (l0 : List (S49)) (A1 : Option Addr) (c1 : Nat) (l1 : List Int) (r : Int) (w : World) (hr0 : Kd.C k49 w A0 l0.length l0) (hc0 : l0.length ≤ c0) (hr1 : Kd.C (Kd.int .i64) w A1 l1.length l1) (hc1 : l1.length ≤ c1) (h : impl_bearsMore.f k l0 l1 = some r) :
    Calls Try.prog 71 #[.slice A0 l0.length c0, .slice A1 l1.length c1] w fun e w' => e = .returned (.int .i64 r) ∧ Below w.heap.size w w' := by
  have HR0 := Aside0.mk hr0
  have HC0 := Aside0.mk hc0
  clear hr0 hc0
  have HR1 := Aside0.mk hr1
  have HC1 := Aside0.mk hc1
  clear hr1 hc1
  have HB := Aside0.mk (Below.refl w.heap.size w)
  have H : ((impl_above.f l0 l1).bind fun t251 => (impl_bearsMore.l0 k l0 l1 1000 t251 (t251.length : Int) 0)) = some r := h
  clear h
  replace H := Option.bind_eq_some_iff.mp H
  obtain ⟨t251, A30, H⟩ := H
  replace H : (impl_bearsMore.l0 k l0 l1 1000 t251 (t251.length : Int) 0) = some r := H
  have A3 := Aside0.mk A30
  clear A30
  have H' := Aside0.mk H
  clear H
  go_enter Try.func71, Try.ntmps71
  go_wp2_with (first | ((with_reducible refine gate_callee (f := 75) rfl ?_); refine goesL_ (some 10) rfl rfl Try.func75 (by kernel_rfl) rfl #[.slice A0 l0.length c0, .slice A1 l1.length c1] rfl (by (try simp only [List.map_toArray, List.map_cons, List.map_nil]); first | done | rfl | (simp only [List.length_drop, List.length_take]; rfl)) ?_; (with_reducible refine (impl_above.calls _ _ l0 _ _ l1 t251 _ ?side1 ?side2 ?side3 ?side4 A3.out).mono ?_); (case side1 => repeat (first | exact HR0.out | (with_reducible refine Kd.C_alloc ?_ _) | (with_reducible refine Kd.C_drewN ?_ _) | (with_reducible refine Kd.C_drew ?_))); (case side2 => exact HC0.out); (case side3 => repeat (first | exact HR1.out | (with_reducible refine Kd.C_alloc ?_ _) | (with_reducible refine Kd.C_drewN ?_ _) | (with_reducible refine Kd.C_drew ?_))); (case side4 => exact HC1.out); rintro e w4 ⟨v252, rfl, ho0, hb⟩; refine ⟨_, rfl, ?_⟩; have n0_ := Aside0.mk (Kd.R_lower ho0 (below_size (by repeat (first | (with_reducible first | exact HB.out | apply below_alloc | apply pw_below_drewN | apply below_drew1) | exact HB.out)))); have n1_ := Aside0.mk (below_step (by repeat (first | (with_reducible first | exact HB.out | apply below_alloc | apply pw_below_drewN | apply below_drew1) | exact HB.out)) hb); clear HB; have HO253 := n0_; have HB := n1_; clear n0_ n1_; (try clear hb); (try clear hb2); (try clear hk); (try clear hi); (try clear ho0); obtain ⟨Ao5, co5, eo5⟩ := Kd.R_slice HO253.out; subst eo5))
  go_loopg [5, 12] k (fun kq v5 v12 w' => ∃ (x5_1 : Int) (x12_1 : Int), v5 = .int .i64 x5_1 ∧ v12 = .int .i64 x12_1 ∧ Aside0 (impl_bearsMore.l0 kq l0 l1 x5_1 t251 (t251.length : Int) x12_1 = some r) ∧ Aside0 (kq ≤ k) ∧ Aside0 (Kd.R (Kd.int .i64) 3 w' w.heap.size (fun _ => True) (.slice Ao5 t251.length co5) t251) ∧ Aside0 (Below w.heap.size w w'))
  case atStart => exact ⟨(1000), (0), (by first | rfl | (simp; done) | (simp [*]; done)), (by first | rfl | (simp; done) | (simp [*]; done)), H', ⟨Nat.le_refl _⟩, ⟨by (with_reducible repeat (first | apply Kd.R_alloc | apply Kd.R_drewN | apply Kd.R_drew)); exact HO253.out⟩, ⟨by repeat (first | (with_reducible first | exact HB.out | apply below_alloc | apply pw_below_drewN | apply below_drew1) | exact HB.out)⟩⟩
  case round =>
    clear H'
    try clear c1
    try clear p2
    obtain ⟨x5_1, x12_1, rfl, rfl, HA, HK1, HO_10, HB⟩ := hrel
    cases gk with
    | zero => exact absurd HA.out (by simp [impl_bearsMore.l0])
    | succ k1 =>
      have H := HA.out
      clear HA
      simp only [impl_bearsMore.l0] at H
      by_cases c6 : x12_1 < (t251.length : Int)
      · rw [if_pos c6] at H
        have c6b0 : decide (x12_1 < (t251.length : Int)) = true := decide_eq_true c6
        clear c6
        by_cases c7 : 0 ≤ x12_1
        · rw [if_pos c7] at H
          have c7b0 : decide (0 ≤ x12_1) = true := decide_eq_true c7
          clear c7
          by_cases c8 : x12_1 < (t251.length : Int)
          · rw [if_pos c8] at H
            have c8b0 : decide (x12_1 < (t251.length : Int)) = true := decide_eq_true c8
            clear c8
            by_cases c9 : x12_1 < (l1.length : Int)
            · rw [if_pos c9] at H
              have c9b0 : decide (x12_1 < (l1.length : Int)) = true := decide_eq_true c9
              clear c9
              by_cases c10 : 0 ≤ (rd l1 x12_1)
              · rw [if_pos c10] at H
                have c10b0 : decide (0 ≤ (rd l1 x12_1)) = true := decide_eq_true c10
                clear c10
                by_cases c11 : (rd l1 x12_1) < (l0.length : Int)
                · rw [if_pos c11] at H
                  have c11b0 : decide ((rd l1 x12_1) < (l0.length : Int)) = true := decide_eq_true c11
                  clear c11
                  obtain ⟨ji12, hji12⟩ : ∃ j_ : Int, (mn x5_1 (wrap64 (((rd_T49 l0 (rd l1 x12_1)).f1) - (rd t251 x12_1)))) = j_ := ⟨_, rfl⟩
                  replace H : (impl_bearsMore.l0 k1 l0 l1 ji12 t251 (t251.length : Int) (wrap64 (x12_1 + 1))) = some r := by first | (rw [hji12] at H; exact H) | (simp only [hji12] at H ⊢; exact H)
                  have hji12_ : (if (wrap64 (((rd_T49 l0 (rd l1 x12_1)).f1) - (rd t251 x12_1))) < x5_1 then (wrap64 (((rd_T49 l0 (rd l1 x12_1)).f1) - (rd t251 x12_1))) else x5_1) = ji12 := hji12
                  have H' := Aside0.mk H
                  clear H
                  have p254 : 0 ≤ (x12_1 : Int) := of_decide_eq_true (by first | (with_reducible assumption) | assumption)
                  have q254 : x12_1 < (t251.length : Int) := of_decide_eq_true (by first | (with_reducible assumption) | assumption)
                  obtain ⟨ad254, e254, hx254_0⟩ := Kd.at_int (Kd.R_reads' HO_10.out).2.2 x12_1 p254 q254
                  cases e254
                  replace p254 := eq_true p254
                  replace q254 := eq_true q254
                  have p255 : 0 ≤ (x12_1 : Int) := of_decide_eq_true (by first | (with_reducible assumption) | assumption)
                  have q255 : x12_1 < (l1.length : Int) := of_decide_eq_true (by first | (with_reducible assumption) | assumption)
                  obtain ⟨ad255, e255, hx255_0⟩ := Kd.at_int HR1.out x12_1 p255 q255
                  cases e255
                  replace hx255_0 := (HB.out.cell (World.block_lt_of_cell? w _ hx255_0)).trans hx255_0
                  replace p255 := eq_true p255
                  replace q255 := eq_true q255
                  have p256 : 0 ≤ ((rd l1 x12_1) : Int) := of_decide_eq_true (by first | (with_reducible assumption) | assumption)
                  have q256 : (rd l1 x12_1) < (l0.length : Int) := of_decide_eq_true (by first | (with_reducible assumption) | assumption)
                  obtain ⟨ad256, e256, hx256_0, hx256_1, hx256_2⟩ := at_T49 HR0.out (rd l1 x12_1) p256 q256
                  cases e256
                  replace hx256_0 := (HB.out.cell (World.block_lt_of_cell? w _ hx256_0)).trans hx256_0
                  replace hx256_1 := (HB.out.cell (World.block_lt_of_cell? w _ hx256_1)).trans hx256_1
                  replace hx256_2 := (HB.out.cell (World.block_lt_of_cell? w _ hx256_2)).trans hx256_2
                  replace p256 := eq_true p256
                  replace q256 := eq_true q256
                  go_wp2
                  go_roundg k1
                  case measure => have := HK1.out; omega
                  case rel => exact ⟨(ji12), (wrap64 (x12_1 + 1)), (by first | rfl | (simp; done) | (simp only [← hji12] <;> (first | rfl | simp)) | (simp [*]; done)), (by first | rfl | (simp; done) | (simp [*]; done)), H', ⟨by have := HK1.out; omega⟩, ⟨by (with_reducible repeat (first | apply Kd.R_alloc | apply Kd.R_drewN | apply Kd.R_drew)); exact HO_10.out⟩, ⟨by repeat (first | (with_reducible first | exact HB.out | apply below_alloc | apply pw_below_drewN | apply below_drew1) | exact HB.out)⟩⟩
                · rw [if_neg c11] at H
                  exact absurd H (by simp)
              · rw [if_neg c10] at H
                exact absurd H (by simp)
            · rw [if_neg c9] at H
              exact absurd H (by simp)
          · rw [if_neg c8] at H
            exact absurd H (by simp)
        · rw [if_neg c7] at H
          exact absurd H (by simp)
      · rw [if_neg c6] at H
        have c6b0 : decide (x12_1 < (t251.length : Int)) = false := decide_eq_false c6
        clear c6
        obtain rfl := Option.some.inj H
        go_wp2
        go_ret
        exact ⟨by first | rfl | (simp [errW_none, errW_some] <;> rfl) | (simp [*, errW_none, errW_some] <;> rfl), by repeat (first | (with_reducible first | exact HB.out | apply below_alloc | apply pw_below_drewN | apply below_drew1) | exact HB.out)⟩

end Go.Proofs.Ytbmefldckdaopaa.Q

namespace Go.Proofs.Ytbmefldckdaopaa.Q
open Go.RowKit Go.Proofs.YtbmefldckdaopaaW.PrintWords Go.Proofs.YtbmefldckdaopaaW.PrintLast Go.Proofs.YtbmefldckdaopaaW.PrintMore
attribute [local go_sem] max2_int min2_int max_two min_two max_three min_three max_four min_four   -- for this text's walks alone
set_option linter.unusedVariables false
set_option linter.unusedSimpArgs false

/-! ### slices_Index_int_int: function 74 -/
def slices_Index_int_int.l0 : Nat → List Int → Int → Int → Int → Option (Int)
  | 0, _, _, _, _ => none
  | k + 1, x0, x1, x7, x8 => if x8 < x7 then (if 0 ≤ x8 then (if x8 < (x0.length : Int) then (if x1 = (rd x0 x8) then (some x8) else (slices_Index_int_int.l0 k x0 x1 x7 (wrap64 (x8 + 1)))) else (none)) else (none)) else (some (-1))
def slices_Index_int_int.f (k : Nat) (l0 : List Int) (a1 : Int) : Option (Int) := slices_Index_int_int.l0 k l0 a1 (l0.length : Int) 0
theorem slices_Index_int_int.mono_l : ∀ k, (∀ y0 y1 y2 y3, LeO (slices_Index_int_int.l0 k y0 y1 y2 y3) (slices_Index_int_int.l0 (k + 1) y0 y1 y2 y3))
  | 0 => fun _ _ _ _ r h => by simp [slices_Index_int_int.l0] at h
  | k + 1 => by
    have ih0 := slices_Index_int_int.mono_l k
    · intro y0 y1 y2 y3
      unfold slices_Index_int_int.l0
      repeat' first
      | (with_reducible exact ih0 _ _ _ _)
      | (with_reducible exact LeO.refl _)
      | (with_reducible exact LeO.none _)
      | (with_reducible refine LeO.ite ?_ ?_)
      | (with_reducible refine LeO.bind ?_ (fun _ => ?_))
      | exact ih0 _ _ _ _
      | exact LeO.none _
      | refine LeO.ite ?_ ?_
      | refine LeO.bind ?_ (fun _ => ?_)
theorem slices_Index_int_int.mono : ∀ a0 a1 k, LeO (slices_Index_int_int.f k a0 a1) (slices_Index_int_int.f (k + 1) a0 a1) := by
  intro a0 a1 k
  have ih0 := slices_Index_int_int.mono_l k
  unfold slices_Index_int_int.f
  repeat' first
      | (with_reducible exact ih0 _ _ _ _)
      | (with_reducible exact LeO.refl _)
      | (with_reducible exact LeO.none _)
      | (with_reducible refine LeO.ite ?_ ?_)
      | (with_reducible refine LeO.bind ?_ (fun _ => ?_))
      | exact ih0 _ _ _ _
      | exact LeO.none _
      | refine LeO.ite ?_ ?_
      | refine LeO.bind ?_ (fun _ => ?_)
set_option maxHeartbeats 8000000 in
set_option maxRecDepth 100000 in
theorem slices_Index_int_int.calls (k : Nat) (A0 : Option Addr) (c0 : Nat) (l0 : List Int) (a1 : Int) (r : Int) (w : World) (hr0 : Kd.C (Kd.int .i64) w A0 l0.length l0) (hc0 : l0.length ≤ c0) (h : slices_Index_int_int.f k l0 a1 = some r) :
    Calls Try.prog 74 #[.slice A0 l0.length c0, .int .i64 a1] w fun e w' => e = .returned (.int .i64 r) ∧ Drawn0 w w' := by
  have HR0 := Aside0.mk hr0
  have HC0 := Aside0.mk hc0
  clear hr0 hc0
  have H : (slices_Index_int_int.l0 k l0 a1 (l0.length : Int) 0) = some r := h
  clear h
  have H' := Aside0.mk H
  clear H
  go_enter Try.func74, Try.ntmps74
  go_wp2
  go_loopg [8] k (fun kq v8 w' => ∃ (x8_1 : Int), v8 = .int .i64 x8_1 ∧ Aside0 (slices_Index_int_int.l0 kq l0 a1 (l0.length : Int) x8_1 = some r) ∧ Aside0 (kq ≤ k) ∧ Drawn0 w w')
  case atStart => exact ⟨(0), (by first | rfl | (simp; done) | (simp [*]; done)), H', ⟨Nat.le_refl _⟩, by repeat (first | exact Drawn0.refl _ | apply Drawn0.step)⟩
  case round =>
    clear H'
    try clear p2
    obtain ⟨x8_1, rfl, HA, HK1, ⟨m1, rfl⟩⟩ := hrel
    cases gk with
    | zero => exact absurd HA.out (by simp [slices_Index_int_int.l0])
    | succ k1 =>
      have H := HA.out
      clear HA
      simp only [slices_Index_int_int.l0] at H
      by_cases c3 : x8_1 < (l0.length : Int)
      · rw [if_pos c3] at H
        have c3b0 : decide (x8_1 < (l0.length : Int)) = true := decide_eq_true c3
        clear c3
        by_cases c4 : 0 ≤ x8_1
        · rw [if_pos c4] at H
          have c4b0 : decide (0 ≤ x8_1) = true := decide_eq_true c4
          clear c4
          by_cases c5 : x8_1 < (l0.length : Int)
          · rw [if_pos c5] at H
            have c5b0 : decide (x8_1 < (l0.length : Int)) = true := decide_eq_true c5
            clear c5
            by_cases c6 : a1 = (rd l0 x8_1)
            · rw [if_pos c6] at H
              have c6b0 : (a1 == (rd l0 x8_1)) = true := beq_iff_eq.mpr c6
              have c6b1 : (a1 != (rd l0 x8_1)) = false := bne_eq_false_iff_eq.mpr c6
              clear c6
              obtain rfl := Option.some.inj H
              have p249 : 0 ≤ (x8_1 : Int) := of_decide_eq_true (by first | (with_reducible assumption) | assumption)
              have q249 : x8_1 < (l0.length : Int) := of_decide_eq_true (by first | (with_reducible assumption) | assumption)
              obtain ⟨ad249, e249, hx249_0⟩ := Kd.at_int HR0.out x8_1 p249 q249
              cases e249
              replace p249 := eq_true p249
              replace q249 := eq_true q249
              go_wp2
              go_ret
              exact ⟨by first | rfl | (simp; done) | (simp [*]; done), by repeat (first | exact Drawn0.refl _ | apply Drawn0.step)⟩
            · rw [if_neg c6] at H
              have c6b0 : (a1 == (rd l0 x8_1)) = false := beq_eq_false_iff_ne.mpr c6
              have c6b1 : (a1 != (rd l0 x8_1)) = true := bne_iff_ne.mpr c6
              have H' := Aside0.mk H
              clear H
              have p249 : 0 ≤ (x8_1 : Int) := of_decide_eq_true (by first | (with_reducible assumption) | assumption)
              have q249 : x8_1 < (l0.length : Int) := of_decide_eq_true (by first | (with_reducible assumption) | assumption)
              obtain ⟨ad249, e249, hx249_0⟩ := Kd.at_int HR0.out x8_1 p249 q249
              cases e249
              replace p249 := eq_true p249
              replace q249 := eq_true q249
              go_wp2
              go_roundg k1
              case measure => have := HK1.out; omega
              case rel => exact ⟨(wrap64 (x8_1 + 1)), (by first | rfl | (simp; done) | (simp [*]; done)), H', ⟨by have := HK1.out; omega⟩, by repeat (first | exact Drawn0.refl _ | apply Drawn0.step)⟩
          · rw [if_neg c5] at H
            exact absurd H (by simp)
        · rw [if_neg c4] at H
          exact absurd H (by simp)
      · rw [if_neg c3] at H
        have c3b0 : decide (x8_1 < (l0.length : Int)) = false := decide_eq_false c3
        clear c3
        obtain rfl := Option.some.inj H
        go_wp2
        go_ret
        exact ⟨by first | rfl | (simp; done) | (simp [*]; done), by repeat (first | exact Drawn0.refl _ | apply Drawn0.step)⟩

end Go.Proofs.Ytbmefldckdaopaa.Q

namespace Go.Proofs.Ytbmefldckdaopaa.Q
open Go.RowKit Go.Proofs.YtbmefldckdaopaaW.PrintWords Go.Proofs.YtbmefldckdaopaaW.PrintLast Go.Proofs.YtbmefldckdaopaaW.PrintMore
attribute [local go_sem] max2_int min2_int max_two min_two max_three min_three max_four min_four   -- for this text's walks alone
set_option linter.unusedVariables false
set_option linter.unusedSimpArgs false

/-! ### slices_Contains_int_int: function 70 -/
def slices_Contains_int_int.f (k : Nat) (l0 : List Int) (a1 : Int) : Option (Bool) := (slices_Index_int_int.f k l0 a1).bind fun t250 => (some (decide (t250 ≥ 0)))
theorem slices_Contains_int_int.mono : ∀ a0 a1 k, LeO (slices_Contains_int_int.f k a0 a1) (slices_Contains_int_int.f (k + 1) a0 a1) := by
  intro a0 a1 k
  unfold slices_Contains_int_int.f
  repeat' first
      | (with_reducible exact slices_Index_int_int.mono _ _ _)
      | (with_reducible exact LeO.refl _)
      | (with_reducible exact LeO.none _)
      | (with_reducible refine LeO.ite ?_ ?_)
      | (with_reducible refine LeO.bind ?_ (fun _ => ?_))
      | exact slices_Index_int_int.mono _ _ _
      | exact LeO.none _
      | refine LeO.ite ?_ ?_
      | refine LeO.bind ?_ (fun _ => ?_)
set_option maxHeartbeats 8000000 in
set_option maxRecDepth 100000 in
theorem slices_Contains_int_int.calls (k : Nat) (A0 : Option Addr) (c0 : Nat) (l0 : List Int) (a1 : Int) (r : Bool) (w : World) (hr0 : Kd.C (Kd.int .i64) w A0 l0.length l0) (hc0 : l0.length ≤ c0) (h : slices_Contains_int_int.f k l0 a1 = some r) :
    Calls Try.prog 70 #[.slice A0 l0.length c0, .int .i64 a1] w fun e w' => e = .returned (.bool r) ∧ Drawn0 w w' := by
  have HR0 := Aside0.mk hr0
  have HC0 := Aside0.mk hc0
  clear hr0 hc0
  have H : ((slices_Index_int_int.f k l0 a1).bind fun t250 => (some (decide (t250 ≥ 0)))) = some r := h
  clear h
  replace H := Option.bind_eq_some_iff.mp H
  obtain ⟨t250, A30, H⟩ := H
  replace H : (some (decide (t250 ≥ 0))) = some r := H
  have A3 := Aside0.mk A30
  clear A30
  obtain rfl := Option.some.inj H
  go_enter Try.func70, Try.ntmps70
  go_wp2_with (first | ((with_reducible refine gate_callee (f := 74) rfl ?_); refine goesL_ (some 7) rfl rfl Try.func74 (by kernel_rfl) rfl #[.slice A0 l0.length c0, .int .i64 a1] rfl (by (try simp only [List.map_toArray, List.map_cons, List.map_nil]); first | done | rfl | (simp only [List.length_drop, List.length_take]; rfl)) ?_; (with_reducible refine (slices_Index_int_int.calls k _ _ l0 a1 t250 _ ?side1 ?side2 A3.out).mono ?_); (case side1 => repeat (first | exact HR0.out | (with_reducible refine Kd.C_alloc ?_ _) | (with_reducible refine Kd.C_drewN ?_ _) | (with_reducible refine Kd.C_drew ?_))); (case side2 => exact HC0.out); rintro e w' ⟨rfl, ⟨nd, rfl⟩⟩; refine ⟨_, rfl, ?_⟩))
  go_ret
  exact ⟨by first | rfl | (simp; done) | (simp [*]; done), by repeat (first | exact Drawn0.refl _ | apply Drawn0.step)⟩

end Go.Proofs.Ytbmefldckdaopaa.Q

namespace Go.Proofs.Ytbmefldckdaopaa.Q
open Go.RowKit Go.Proofs.YtbmefldckdaopaaW.PrintWords Go.Proofs.YtbmefldckdaopaaW.PrintLast Go.Proofs.YtbmefldckdaopaaW.PrintMore
attribute [local go_sem] max2_int min2_int max_two min_two max_three min_three max_four min_four   -- for this text's walks alone
set_option linter.unusedVariables false
set_option linter.unusedSimpArgs false

/-! ### impl_high: function 55 -/
def impl_high.l0 : Nat → List (S49) → Int → List Int → Int → Int → Option (Int)
  | 0, _, _, _, _, _ => none
  | k + 1, x0, x5, x8, x9, x10 => if x10 < x9 then (if 0 ≤ x10 then (if x10 < (x8.length : Int) then (if 0 ≤ (rd x8 x10) then (if (rd x8 x10) < (x0.length : Int) then (impl_high.l0 k x0 (wrap64 (x5 + ((rd_T49 x0 (rd x8 x10)).f2))) x8 x9 (wrap64 (x10 + 1))) else (none)) else (none)) else (none)) else (none)) else (some x5)
def impl_high.f (k : Nat) (l0 : List (S49)) (l1 : List Int) : Option (Int) := impl_high.l0 k l0 0 l1 (l1.length : Int) 0
theorem impl_high.mono_l : ∀ k, (∀ y0 y1 y2 y3 y4, LeO (impl_high.l0 k y0 y1 y2 y3 y4) (impl_high.l0 (k + 1) y0 y1 y2 y3 y4))
  | 0 => fun _ _ _ _ _ r h => by simp [impl_high.l0] at h
  | k + 1 => by
    have ih0 := impl_high.mono_l k
    · intro y0 y1 y2 y3 y4
      unfold impl_high.l0
      repeat' first
      | (with_reducible exact ih0 _ _ _ _ _)
      | (with_reducible exact LeO.refl _)
      | (with_reducible exact LeO.none _)
      | (with_reducible refine LeO.ite ?_ ?_)
      | (with_reducible refine LeO.bind ?_ (fun _ => ?_))
      | exact ih0 _ _ _ _ _
      | exact LeO.none _
      | refine LeO.ite ?_ ?_
      | refine LeO.bind ?_ (fun _ => ?_)
theorem impl_high.mono : ∀ a0 a1 k, LeO (impl_high.f k a0 a1) (impl_high.f (k + 1) a0 a1) := by
  intro a0 a1 k
  have ih0 := impl_high.mono_l k
  unfold impl_high.f
  repeat' first
      | (with_reducible exact ih0 _ _ _ _ _)
      | (with_reducible exact LeO.refl _)
      | (with_reducible exact LeO.none _)
      | (with_reducible refine LeO.ite ?_ ?_)
      | (with_reducible refine LeO.bind ?_ (fun _ => ?_))
      | exact ih0 _ _ _ _ _
      | exact LeO.none _
      | refine LeO.ite ?_ ?_
      | refine LeO.bind ?_ (fun _ => ?_)
set_option maxHeartbeats 8000000 in
set_option maxRecDepth 100000 in
theorem impl_high.calls (k : Nat) (A0 : Option Addr) (c0 : Nat) (l0 : List (S49)) (A1 : Option Addr) (c1 : Nat) (l1 : List Int) (r : Int) (w : World) (hr0 : Kd.C k49 w A0 l0.length l0) (hc0 : l0.length ≤ c0) (hr1 : Kd.C (Kd.int .i64) w A1 l1.length l1) (hc1 : l1.length ≤ c1) (h : impl_high.f k l0 l1 = some r) :
    Calls Try.prog 55 #[.slice A0 l0.length c0, .slice A1 l1.length c1] w fun e w' => e = .returned (.int .i64 r) ∧ Drawn0 w w' := by
  have HR0 := Aside0.mk hr0
  have HC0 := Aside0.mk hc0
  clear hr0 hc0
  have HR1 := Aside0.mk hr1
  have HC1 := Aside0.mk hc1
  clear hr1 hc1
  have H : (impl_high.l0 k l0 0 l1 (l1.length : Int) 0) = some r := h
  clear h
  have H' := Aside0.mk H
  clear H
  go_enter Try.func55, Try.ntmps55
  go_wp2
  go_loopg [5, 10] k (fun kq v5 v10 w' => ∃ (x5_1 : Int) (x10_1 : Int), v5 = .int .i64 x5_1 ∧ v10 = .int .i64 x10_1 ∧ Aside0 (impl_high.l0 kq l0 x5_1 l1 (l1.length : Int) x10_1 = some r) ∧ Aside0 (kq ≤ k) ∧ Drawn0 w w')
  case atStart => exact ⟨(0), (0), (by first | rfl | (simp; done) | (simp [*]; done)), (by first | rfl | (simp; done) | (simp [*]; done)), H', ⟨Nat.le_refl _⟩, by repeat (first | exact Drawn0.refl _ | apply Drawn0.step)⟩
  case round =>
    clear H'
    try clear c1
    try clear p2
    obtain ⟨x5_1, x10_1, rfl, rfl, HA, HK1, ⟨m1, rfl⟩⟩ := hrel
    cases gk with
    | zero => exact absurd HA.out (by simp [impl_high.l0])
    | succ k1 =>
      have H := HA.out
      clear HA
      simp only [impl_high.l0] at H
      by_cases c3 : x10_1 < (l1.length : Int)
      · rw [if_pos c3] at H
        have c3b0 : decide (x10_1 < (l1.length : Int)) = true := decide_eq_true c3
        clear c3
        by_cases c4 : 0 ≤ x10_1
        · rw [if_pos c4] at H
          have c4b0 : decide (0 ≤ x10_1) = true := decide_eq_true c4
          clear c4
          by_cases c5 : x10_1 < (l1.length : Int)
          · rw [if_pos c5] at H
            have c5b0 : decide (x10_1 < (l1.length : Int)) = true := decide_eq_true c5
            clear c5
            by_cases c6 : 0 ≤ (rd l1 x10_1)
            · rw [if_pos c6] at H
              have c6b0 : decide (0 ≤ (rd l1 x10_1)) = true := decide_eq_true c6
              clear c6
              by_cases c7 : (rd l1 x10_1) < (l0.length : Int)
              · rw [if_pos c7] at H
                have c7b0 : decide ((rd l1 x10_1) < (l0.length : Int)) = true := decide_eq_true c7
                clear c7
                have H' := Aside0.mk H
                clear H
                have p247 : 0 ≤ (x10_1 : Int) := of_decide_eq_true (by first | (with_reducible assumption) | assumption)
                have q247 : x10_1 < (l1.length : Int) := of_decide_eq_true (by first | (with_reducible assumption) | assumption)
                obtain ⟨ad247, e247, hx247_0⟩ := Kd.at_int HR1.out x10_1 p247 q247
                cases e247
                replace p247 := eq_true p247
                replace q247 := eq_true q247
                have p248 : 0 ≤ ((rd l1 x10_1) : Int) := of_decide_eq_true (by first | (with_reducible assumption) | assumption)
                have q248 : (rd l1 x10_1) < (l0.length : Int) := of_decide_eq_true (by first | (with_reducible assumption) | assumption)
                obtain ⟨ad248, e248, hx248_0, hx248_1, hx248_2⟩ := at_T49 HR0.out (rd l1 x10_1) p248 q248
                cases e248
                replace p248 := eq_true p248
                replace q248 := eq_true q248
                go_wp2
                go_roundg k1
                case measure => have := HK1.out; omega
                case rel => exact ⟨(wrap64 (x5_1 + ((rd_T49 l0 (rd l1 x10_1)).f2))), (wrap64 (x10_1 + 1)), (by first | rfl | (simp; done) | (simp [*]; done)), (by first | rfl | (simp; done) | (simp [*]; done)), H', ⟨by have := HK1.out; omega⟩, by repeat (first | exact Drawn0.refl _ | apply Drawn0.step)⟩
              · rw [if_neg c7] at H
                exact absurd H (by simp)
            · rw [if_neg c6] at H
              exact absurd H (by simp)
          · rw [if_neg c5] at H
            exact absurd H (by simp)
        · rw [if_neg c4] at H
          exact absurd H (by simp)
      · rw [if_neg c3] at H
        have c3b0 : decide (x10_1 < (l1.length : Int)) = false := decide_eq_false c3
        clear c3
        obtain rfl := Option.some.inj H
        go_wp2
        go_ret
        exact ⟨by first | rfl | (simp; done) | (simp [*]; done), by repeat (first | exact Drawn0.refl _ | apply Drawn0.step)⟩

end Go.Proofs.Ytbmefldckdaopaa.Q

namespace Go.Proofs.Ytbmefldckdaopaa.Q
open Go.RowKit Go.Proofs.YtbmefldckdaopaaW.PrintWords Go.Proofs.YtbmefldckdaopaaW.PrintLast Go.Proofs.YtbmefldckdaopaaW.PrintMore
set_option linter.unusedVariables false
set_option linter.unusedSimpArgs false

theorem w64 {i : Int} (h0 : -1000000000000000 ≤ i) (h : i ≤ 1000000000000000) : wrap64 i = i := by
  unfold wrap64; omega
theorem rd_nat (xs : List Int) (i : Nat) (h : i < xs.length) : rd xs (i : Int) = xs[i] := by
  simp [rd, List.getD_eq_getElem?_getD, h]

theorem eqIntS_l0 (a : List Int) (hn : a.length ≤ 100000000000000) : ∀ d k i, i + d = a.length → d < k → laws_eqIntS.l0 k a a (i : Int) = some true := by
  intro d
  induction d with
  | zero =>
    intro k i hi hk
    obtain ⟨k, rfl⟩ : ∃ m, k = m + 1 := ⟨k - 1, by omega⟩
    simp only [laws_eqIntS.l0]; rw [if_neg (by omega)]
  | succ d ih =>
    intro k i hi hk
    obtain ⟨k, rfl⟩ : ∃ m, k = m + 1 := ⟨k - 1, by omega⟩
    simp only [laws_eqIntS.l0]; rw [if_pos (by omega), if_pos (by omega), if_pos (by omega), if_pos trivial, w64 (by omega) (by omega)]
    exact ih k (i + 1) (by omega) (by omega)
theorem eqIntS_self (a : List Int) (hn : a.length ≤ 100000000000000) (k : Nat) (hk : a.length < k) : laws_eqIntS.f k a a = some true := by
  unfold laws_eqIntS.f
  rw [if_pos rfl]
  exact eqIntS_l0 a hn a.length k 0 (by omega) hk

/-- What a marked list holds. -/
def marks (a : Int) (n : Nat) : List Int := (List.range n).map fun (j : Nat) => a + (j : Int)
theorem marks_length (a : Int) (n : Nat) : (marks a n).length = n := by simp [marks]
theorem marks_get (a : Int) (n : Nat) (i : Nat) (h : i < (marks a n).length) : (marks a n)[i] = a + (i : Int) := by simp [marks]

theorem markIntS_l0 (a : Int) (n : Nat) (h0 : 0 ≤ a) (hn : a + n ≤ 100000000000000) : ∀ d k i (x : List Int), i + d = n → d < k → x.length = n → (∀ j (hj : j < x.length), j < i → x[j] = a + (j : Int)) →
    laws_markIntS.l0 k x (a + (i : Int)) (i : Int) = some (a + (n : Int), marks a n) := by
  intro d
  induction d with
  | zero =>
    intro k i x hi hk hx hj
    obtain ⟨k, rfl⟩ : ∃ m, k = m + 1 := ⟨k - 1, by omega⟩
    simp only [laws_markIntS.l0]; rw [if_neg (by omega)]
    have : x = marks a n := by
      apply List.ext_getElem
      · rw [hx, marks_length]
      · intro j h1 h2
        rw [hj j h1 (by omega), marks_get]
    rw [this]
    have : i = n := by omega
    subst this; rfl
  | succ d ih =>
    intro k i x hi hk hx hj
    obtain ⟨k, rfl⟩ : ∃ m, k = m + 1 := ⟨k - 1, by omega⟩
    simp only [laws_markIntS.l0]; rw [if_pos (by omega), if_pos (by omega), w64 (i := a + (i : Int) + 1) (by omega) (by omega), w64 (i := (i : Int) + 1) (by omega) (by omega)]
    have := ih k (i + 1) (x.set (i : Int).toNat (a + (i : Int))) (by omega) (by omega) (by simp [hx]) (fun j hj1 hj2 => by
      simp only [Int.toNat_natCast]
      rw [List.getElem_set]
      split
      · rename_i e; rw [e]
      · rename_i e; exact hj j (by simpa using hj1) (by omega))
    rw [show a + ((i + 1 : Nat) : Int) = a + (i : Int) + 1 by omega, show ((i + 1 : Nat) : Int) = (i : Int) + 1 by omega] at this
    exact this
theorem markIntS_eq (x : List Int) (a : Int) (h0 : 0 ≤ a) (hn : a + x.length ≤ 100000000000000) (k : Nat) (hk : x.length < k) : laws_markIntS.f k x a = some (a + (x.length : Int), marks a x.length) := by
  unfold laws_markIntS.f
  have := markIntS_l0 a x.length h0 hn x.length k 0 x (by omega) hk rfl (fun j _ h => absurd h (by omega))
  simpa using this

theorem heldIntS_l0 (a : Int) (n : Nat) (h0 : 0 ≤ a) (hn : a + n ≤ 100000000000000) : ∀ d k i, i + d = n → d < k → laws_heldIntS.l0 k (marks a n) (a + (i : Int)) (i : Int) = some (a + (n : Int)) := by
  intro d
  induction d with
  | zero =>
    intro k i hi hk
    obtain ⟨k, rfl⟩ : ∃ m, k = m + 1 := ⟨k - 1, by omega⟩
    simp only [laws_heldIntS.l0]; rw [if_neg (by rw [marks_length]; omega)]
    have : i = n := by omega
    subst this; rfl
  | succ d ih =>
    intro k i hi hk
    obtain ⟨k, rfl⟩ : ∃ m, k = m + 1 := ⟨k - 1, by omega⟩
    simp only [laws_heldIntS.l0]
    rw [if_pos (by rw [marks_length]; omega), if_pos (by omega), if_pos (by rw [rd_nat _ i (by rw [marks_length]; omega), marks_get]), w64 (i := a + (i : Int) + 1) (by omega) (by omega), w64 (i := (i : Int) + 1) (by omega) (by omega)]
    have := ih k (i + 1) (by omega) (by omega)
    rw [show a + ((i + 1 : Nat) : Int) = a + (i : Int) + 1 by omega, show ((i + 1 : Nat) : Int) = (i : Int) + 1 by omega] at this
    exact this
theorem heldIntS_eq (n : Nat) (a : Int) (h0 : 0 ≤ a) (hn : a + n ≤ 100000000000000) (k : Nat) (hk : n < k) : laws_heldIntS.f k (marks a n) a = some (a + (n : Int)) := by
  unfold laws_heldIntS.f
  have := heldIntS_l0 a n h0 hn n k 0 (by omega) hk
  simpa using this
end Go.Proofs.Ytbmefldckdaopaa.Q

namespace Go.Proofs.Ytbmefldckdaopaa.Q
open Go.RowKit Go.Proofs.YtbmefldckdaopaaW.PrintWords Go.Proofs.YtbmefldckdaopaaW.PrintLast Go.Proofs.YtbmefldckdaopaaW.PrintMore
set_option linter.unusedVariables false
set_option linter.unusedSimpArgs false

theorem Ev_from {α : Type} {g : Nat → Option α} {r : α} (N : Nat) (h : ∀ k, N < k → g k = some r) : Ev g r := ⟨N + 1, fun k hk => h k (by omega)⟩
theorem Ev_some {α : Type} (r : α) : Ev (fun _ => some r) r := Ev.now r
theorem eqIntS_ev (a : List Int) (h : a.length ≤ 10000000) : Ev (fun k => laws_eqIntS.f k a a) true := Ev_from a.length fun k hk => eqIntS_self a (by omega) k hk
theorem markIntS_ev (a : List Int) (h : a.length ≤ 10000000) (n : Int) (h0 : 0 ≤ n) (hn : n ≤ 10000000000) : Ev (fun k => laws_markIntS.f k a n) (n + (a.length : Int), marks n a.length) := Ev_from a.length fun k hk => markIntS_eq a n h0 (by omega) k hk
theorem heldIntS_ev (m : Nat) (h : m ≤ 10000000) (n : Int) (h0 : 0 ≤ n) (hn : n ≤ 10000000000) : Ev (fun k => laws_heldIntS.f k (marks n m) n) (n + (m : Int)) := Ev_from m fun k hk => heldIntS_eq m n h0 (by omega) k hk
/-- The two answers of one call. -/
theorem Ev_unique {α : Type} {g : Nat → Option α} {r s : α} (h : Ev g r) (h' : Ev g s) : r = s := by
  obtain ⟨K, h⟩ := h
  obtain ⟨K', h'⟩ := h'
  have a := h (max K K') (by omega)
  have b := h' (max K K') (by omega)
  rw [a] at b
  injection b
end Go.Proofs.Ytbmefldckdaopaa.Q

namespace Go.Proofs.Ytbmefldckdaopaa.Q
open Go.RowKit Go.Proofs.YtbmefldckdaopaaW.PrintWords Go.Proofs.YtbmefldckdaopaaW.PrintLast Go.Proofs.YtbmefldckdaopaaW.PrintMore
set_option linter.unusedVariables false
set_option linter.unusedSimpArgs false

def Inside (list : List Thing) (st : List Int) : Prop := ∀ i ∈ st, 0 ≤ i ∧ i < (list.length : Int)
/-- How much can be borne still. -/
def bearsL (list : List Thing) : List Int → List Int → Int → Int
  | i :: st, n :: ab, m => bearsL list st ab (mn m (wrap64 ((rd_T49 list i).f1 - n)))
  | _, _, m => m
def bearsV (list : List Thing) (st : List Int) : Int := bearsL list st (aboveAll list st).1 1000
theorem bears_l0 (list : List Thing) (st ab : List Int) (hw : Inside list st) (hl : ab.length = st.length) (hn : st.length ≤ 1000000000) : ∀ d k i m, i + d = st.length → d < k →
    impl_bearsMore.l0 k list st m ab (ab.length : Int) (i : Int) = some (bearsL list (st.drop i) (ab.drop i) m) := by
  intro d
  induction d with
  | zero =>
    intro k i m hi hk
    obtain ⟨k, rfl⟩ : ∃ q, k = q + 1 := ⟨k - 1, by omega⟩
    simp only [impl_bearsMore.l0]; rw [if_neg (by omega), List.drop_of_length_le (by omega), List.drop_of_length_le (by omega)]; rfl
  | succ d ih =>
    intro k i m hi hk
    obtain ⟨k, rfl⟩ : ∃ q, k = q + 1 := ⟨k - 1, by omega⟩
    have hlt : i < st.length := by omega
    have hlt2 : i < ab.length := by omega
    have hin := hw st[i] (List.getElem_mem hlt)
    simp only [impl_bearsMore.l0]
    rw [if_pos (by omega), if_pos (by omega), if_pos (by omega), if_pos (by omega), rd_nat st i hlt, if_pos hin.1, if_pos hin.2, rd_nat ab i hlt2, w64 (i := (i : Int) + 1) (by omega) (by omega), List.drop_eq_getElem_cons hlt, List.drop_eq_getElem_cons hlt2, bearsL]
    have := ih k (i + 1) (mn m (wrap64 ((rd_T49 list st[i]).f1 - ab[i]))) (by omega) (by omega)
    rw [show ((i + 1 : Nat) : Int) = (i : Int) + 1 by omega] at this
    exact this
theorem bearsMore_eq (list : List Thing) (st : List Int) (hw : Inside list st) (hn : st.length ≤ 1000000000) (k : Nat) (hk : st.length < k) : impl_bearsMore.f k list st = some (bearsV list st) := by
  unfold impl_bearsMore.f impl_above.f
  rw [if_pos (by unfold things; simp only [Bool.and_eq_true, decide_eq_true_eq, List.all_eq_true]; exact ⟨hn, fun x hx => hw x hx⟩)]
  simp only [Option.bind_some]
  have := bears_l0 list st (aboveAll list st).1 hw (aboveAll_length list st) hn st.length k 0 1000 (by omega) hk
  simpa [bearsV] using this
/-- Is it among them? -/
theorem contains_l0 (st : List Int) (x : Int) (hn : st.length ≤ 1000000000) : ∀ d k i, i + d = st.length → d < k →
    ∃ r, slices_Index_int_int.l0 k st x (st.length : Int) (i : Int) = some r ∧ decide (r ≥ 0) = (st.drop i).contains x := by
  intro d
  induction d with
  | zero =>
    intro k i hi hk
    obtain ⟨k, rfl⟩ : ∃ q, k = q + 1 := ⟨k - 1, by omega⟩
    simp only [slices_Index_int_int.l0]; rw [if_neg (by omega), List.drop_of_length_le (by omega)]
    exact ⟨-1, rfl, by simp⟩
  | succ d ih =>
    intro k i hi hk
    obtain ⟨k, rfl⟩ : ∃ q, k = q + 1 := ⟨k - 1, by omega⟩
    have hlt : i < st.length := by omega
    simp only [slices_Index_int_int.l0]
    rw [if_pos (by omega), if_pos (by omega), if_pos (by omega), rd_nat st i hlt, w64 (i := (i : Int) + 1) (by omega) (by omega), List.drop_eq_getElem_cons hlt]
    by_cases h : x = st[i]
    · rw [if_pos h]
      exact ⟨i, rfl, by rw [List.contains_cons, beq_iff_eq.mpr h, Bool.true_or]; simp⟩
    · rw [if_neg h, show (i : Int) + 1 = ((i + 1 : Nat) : Int) by omega]
      obtain ⟨r, h1, h2⟩ := ih k (i + 1) (by omega) (by omega)
      exact ⟨r, h1, by rw [h2, List.contains_cons, beq_eq_false_iff_ne.mpr h, Bool.false_or]⟩
theorem contains_eq (st : List Int) (x : Int) (hn : st.length ≤ 1000000000) (k : Nat) (hk : st.length < k) : slices_Contains_int_int.f k st x = some (st.contains x) := by
  unfold slices_Contains_int_int.f slices_Index_int_int.f
  obtain ⟨r, h1, h2⟩ := contains_l0 st x hn st.length k 0 (by omega) hk
  simp only [Int.natCast_zero] at h1
  rw [h1]
  simp only [Option.bind_some, h2, List.drop_zero]
/-- How high. -/
def highV (list : List Thing) (st : List Int) : Int := st.foldl (fun s i => wrap64 (s + (rd_T49 list i).f2)) 0
theorem high_l0 (list : List Thing) (st : List Int) (hw : Inside list st) (hn : st.length ≤ 1000000000) : ∀ d k i s, i + d = st.length → d < k →
    impl_high.l0 k list s st (st.length : Int) (i : Int) = some ((st.drop i).foldl (fun s i => wrap64 (s + (rd_T49 list i).f2)) s) := by
  intro d
  induction d with
  | zero =>
    intro k i s hi hk
    obtain ⟨k, rfl⟩ : ∃ q, k = q + 1 := ⟨k - 1, by omega⟩
    simp only [impl_high.l0]; rw [if_neg (by omega), List.drop_of_length_le (by omega)]; rfl
  | succ d ih =>
    intro k i s hi hk
    obtain ⟨k, rfl⟩ : ∃ q, k = q + 1 := ⟨k - 1, by omega⟩
    have hlt : i < st.length := by omega
    have hin := hw st[i] (List.getElem_mem hlt)
    simp only [impl_high.l0]
    rw [if_pos (by omega), if_pos (by omega), if_pos (by omega), rd_nat st i hlt, if_pos hin.1, if_pos hin.2, w64 (i := (i : Int) + 1) (by omega) (by omega), List.drop_eq_getElem_cons hlt, List.foldl_cons]
    have := ih k (i + 1) (wrap64 (s + (rd_T49 list st[i]).f2)) (by omega) (by omega)
    rw [show ((i + 1 : Nat) : Int) = (i : Int) + 1 by omega] at this
    exact this
theorem high_eq (list : List Thing) (st : List Int) (hw : Inside list st) (hn : st.length ≤ 1000000000) (k : Nat) (hk : st.length < k) : impl_high.f k list st = some (highV list st) := by
  unfold impl_high.f
  have := high_l0 list st hw hn st.length k 0 0 (by omega) hk
  simpa [highV] using this

/-- May it be put on top? -/
def mayV (list : List Thing) (st : List Int) (i : Nat) : Bool := !st.contains (i : Int) && decide (0 ≤ bearsV list (st ++ [(i : Int)]))
/-- The safe stacks on the way, in order. -/
def treeV (list : List Thing) : Nat → List Int → List (List Int)
  | 0, st => [st]
  | d + 1, st => st :: (List.range list.length).flatMap fun i => if mayV list st i = true then treeV list d (st ++ [(i : Int)]) else []
/-- The places that are free still. -/
def freeV (list : List Thing) (st : List Int) : Nat := ((List.range list.length).filter (fun i : Nat => !st.contains (i : Int))).length
theorem free_less (list : List Thing) (st : List Int) (i : Nat) (hi : i < list.length) (h : st.contains (i : Int) = false) : freeV list (st ++ [(i : Int)]) < freeV list st := by
  unfold freeV
  have key : ∀ L : List Nat, (L.filter (fun j : Nat => !(st ++ [(i : Int)]).contains (j : Int))).length ≤ (L.filter (fun j : Nat => !st.contains (j : Int))).length ∧ (i ∈ L → (L.filter (fun j : Nat => !(st ++ [(i : Int)]).contains (j : Int))).length < (L.filter (fun j : Nat => !st.contains (j : Int))).length) := by
    intro L
    induction L with
    | nil => exact ⟨Nat.le_refl _, fun h => by cases h⟩
    | cons j L ih =>
      have e : (st ++ [(i : Int)]).contains (j : Int) = (st.contains (j : Int) || ((j : Int) == (i : Int))) := by rw [Bool.eq_iff_iff]; simp [List.contains_eq_mem]
      rw [List.filter_cons, List.filter_cons, e]
      by_cases hj : j = i
      · subst hj
        rw [h]
        simp only [beq_self_eq_true, Bool.or_true, Bool.not_true, Bool.false_eq_true, if_false, Bool.not_false, if_true, List.length_cons]
        exact ⟨by omega, fun _ => by omega⟩
      · have hne : ((j : Int) == (i : Int)) = false := beq_eq_false_iff_ne.mpr (by omega)
        rw [hne, Bool.or_false]
        refine ⟨?_, fun hm => ?_⟩
        · have := ih.1
          split <;> (try simp only [List.length_cons]) <;> omega
        · rcases List.mem_cons.1 hm with hm | hm
          · exact absurd hm.symm hj
          · have := ih.2 hm
            split <;> (try simp only [List.length_cons]) <;> omega
  exact (key _).2 (List.mem_range.2 hi)
theorem free_nil (list : List Thing) : freeV list [] = list.length := by
  unfold freeV
  rw [List.filter_eq_self.2 (by simp), List.length_range]
end Go.Proofs.Ytbmefldckdaopaa.Q

namespace Go.Proofs.Ytbmefldckdaopaa.Q
open Go.RowKit Go.Shelf Go.Proofs.YtbmefldckdaopaaW.PrintWords Go.Proofs.YtbmefldckdaopaaW.PrintLast Go.Proofs.YtbmefldckdaopaaW.PrintMore
set_option linter.unusedVariables false
set_option linter.unusedSimpArgs false

abbrev kInt : Kd Int := Kd.int .i64
/-- What the function that safeStacks is handed does. -/
structure One {σ : Type} (list : List Thing) (S : Nat → Prop) (I : σ → World → Prop) (base : Nat) (w1 : World) (ge : Nat) (bde fre : Array Value) (step : σ → List Int → σ) : Prop where
  ee : ∀ args w, (callFunc ge args).run Try.prog w = .ok (.enter ge args) w
  st : ∀ s W W', I s W → Below W.heap.size W W' → I s W'
  each : ∀ s W v st, Fr S w1 W → I s W → Kd.R kInt 3 W base (fun k => ¬ S k) v st → Inside list st → st.length ≤ list.length →
    Calls Try.prog ge (bde.push v ++ fre) W fun e w' => e = .returned (.tuple #[]) ∧ I (step s st) w' ∧ Fr S W w'
theorem One.later {σ : Type} {list : List Thing} {S : Nat → Prop} {I : σ → World → Prop} {base : Nat} {w w1 : World} {ge : Nat} {bde fre : Array Value} {step : σ → List Int → σ}
    (T : One list S I base w ge bde fre step) (h : Fr S w w1) : One list S I base w1 ge bde fre step := ⟨T.ee, T.st, fun s W v st hF => T.each s W v st (h.trans hF)⟩

/-- What comes behind, from place j on. -/
def restV (list : List Thing) (d : Nat) (st : List Int) (j : Nat) : List (List Int) := (List.range' j (list.length - j)).flatMap fun i => if mayV list st i = true then treeV list d (st ++ [(i : Int)]) else []
theorem restV_step (list : List Thing) (d : Nat) (st : List Int) (j : Nat) (h : j < list.length) : restV list d st j = (if mayV list st j = true then treeV list d (st ++ [(j : Int)]) else []) ++ restV list d st (j + 1) := by
  unfold restV
  rw [show list.length - j = (list.length - (j + 1)) + 1 by omega, List.range'_succ, List.flatMap_cons]
theorem restV_end (list : List Thing) (d : Nat) (st : List Int) (j : Nat) (h : list.length ≤ j) : restV list d st j = [] := by
  unfold restV
  rw [show list.length - j = 0 by omega]; rfl
theorem treeV_eq (list : List Thing) (d : Nat) (st : List Int) : treeV list (d + 1) st = st :: restV list d st 0 := by
  unfold restV
  rw [treeV, Nat.sub_zero, List.range_eq_range']
/-- Where nothing is free nothing more comes. -/
theorem may_free (list : List Thing) (st : List Int) (i : Nat) (hi : i < list.length) (h : mayV list st i = true) : freeV list (st ++ [(i : Int)]) < freeV list st := by
  unfold mayV at h
  simp only [Bool.and_eq_true, Bool.not_eq_true'] at h
  exact free_less list st i hi h.1

set_option maxRecDepth 100000 in
set_option maxHeartbeats 4000000 in
theorem chooseS_calls {σ : Type} (list : List Thing) (A0 : Option Addr) (c0 : Nat) (S : Nat → Prop) (I : σ → World → Prop) (base : Nat) (w1 : World) (ge : Nat) (bde fre : Array Value) (step : σ → List Int → σ)
    (Bi Be Bc : Nat) (hn : list.length ≤ 1000) (T : One list S I base w1 ge bde fre step) (hb1 : base ≤ w1.heap.size) (hSl : ∀ k, S k → k < w1.heap.size)
    (hC : ∀ W, Fr S w1 W → Kd.C k49 W A0 list.length list) (hc0 : list.length ≤ c0)
    (xi : Boxed w1 Bi 25 (.slice A0 list.length c0)) (xe : Boxed w1 Be 72 (.func (.func ge) bde fre))
    (xc : Boxed w1 Bc 72 (.func (.func 68) #[] #[.pointer (some ⟨Be, 0, none⟩), .pointer (some ⟨Bi, 0, none⟩), .pointer (some ⟨Bc, 0, none⟩)]))
    (ni : ¬ S Bi) (ne : ¬ S Be) (nc : ¬ S Bc) :
    ∀ d s W v st, freeV list st < d → Fr S w1 W → I s W → Kd.R kInt 3 W base (fun k => ¬ S k) v st → Inside list st → st.length + freeV list st ≤ list.length →
      Calls Try.prog 68 #[v, .pointer (some ⟨Be, 0, none⟩), .pointer (some ⟨Bi, 0, none⟩), .pointer (some ⟨Bc, 0, none⟩)] W fun e w' => e = .returned (.tuple #[]) ∧ I ((treeV list d st).foldl step s) w' ∧ Fr S W w' := by
  intro d
  induction d with
  | zero => intro s W v st h; omega
  | succ d ih =>
  intro s W v st hd hF hI hv hins hlen
  rw [treeV_eq]
  obtain ⟨A1, c1, rfl, hc1, hC1⟩ := Kd.R_reads hv
  have HI := Aside0.mk hI
  have HV := Aside0.mk hv
  have HF := Aside0.mk hF
  have XI := Aside0.mk xi
  have XE := Aside0.mk xe
  have XC := Aside0.mk xc
  have q1 := (box_fr xe hF ne).cell
  have IH := Aside0.mk ih
  have HIN := Aside0.mk hins
  have heach := T.each s W (.slice A1 st.length c1) st hF hI hv hins (by omega)
  have HE := Aside0.mk heach
  clear hI hv hF hC1 xi xe xc ih hins heach
  have ee := T.ee
  have hmix : Try.prog.follows .mixedOrders = true := by kernel_rfl
  go_enter Try.func68, Try.ntmps68
  go_wp2_with (go_at_fn ge; refine HE.out.mono ?_; rintro e w2 ⟨rfl, hI2, hF2⟩; have F2 := Aside0.mk (HF.out.trans hF2); have q2 := (box_fr XI.out F2.out ni).cell)
  have I2 := Aside0.mk hI2
  have G2 := Aside0.mk hF2
  clear hI2 hF2 q1 q2
  go_loopg [12] list.length (fun gg s12 wr => ∃ j : Nat, s12 = .int .i64 (j : Int) ∧ j ≤ list.length ∧ list.length - j ≤ gg ∧ Aside0 (∃ t, I t wr ∧ (restV list d st j).foldl step t = (restV list d st 0).foldl step (step s st)) ∧ Aside0 (Fr S W wr))
  case atStart => exact ⟨0, rfl, by omega, by omega, ⟨_, I2.out, rfl⟩, G2⟩
  case round =>
    obtain ⟨j, rfl, hjn, hgg, II, GG⟩ := hrel
    have FF := Aside0.mk (HF.out.trans GG.out)
    by_cases hlt : j < list.length
    · have hltz : (j : Int) < (list.length : Int) := by omega
      obtain ⟨t, hst, hfold⟩ := II.out
      have HST := Aside0.mk hst
      have HFO := Aside0.mk hfold
      have HBR : Aside0 (base ≤ wr.heap.size) := ⟨Nat.le_trans hb1 FF.out.size⟩
      have HSR : Aside0 (∀ k, S k → k < wr.heap.size) := ⟨fun k hk => Nat.lt_of_lt_of_le (hSl k hk) FF.out.size⟩
      have HVr := Aside0.mk (R_fr HV.out GG.out (fun _ h => h))
      have HCr : Aside0 (∀ W', Below wr.heap.size wr W' → Kd.C kInt W' A1 st.length st) := ⟨fun W' h => by
        obtain ⟨A', c', he, _, hC'⟩ := Kd.R_reads (Kd.R_below HVr.out h)
        injection he with he1 he2 he3
        subst he1
        exact hC'⟩
      clear II hst hfold
      obtain ⟨st', hst'⟩ : ∃ y, y = st ++ [(j : Int)] := ⟨_, rfl⟩
      have hin' : Inside list st' := fun x hx => by
        rw [hst'] at hx
        rcases List.mem_append.1 hx with hx | hx
        · exact HIN.out x hx
        · have := List.mem_singleton.1 hx; omega
      have hl' : st'.length = st.length + 1 := by rw [hst']; simp
      have hct := contains_eq st (j : Int) (by omega) (st.length + 1) (by omega)
      have hbm := bearsMore_eq list st' hin' (by omega) (st'.length + 1) (by omega)
      have hmay : mayV list st j = (!st.contains (j : Int) && decide (0 ≤ bearsV list st')) := by rw [hst']; rfl
      generalize hcv : st.contains (j : Int) = cv at hct hmay
      generalize hbv : bearsV list st' = bv at hbm hmay
      have HIN' := Aside0.mk hin'
      have HST' := Aside0.mk hst'
      have HCT := Aside0.mk hct
      have HBC : Aside0 (∀ (W : World) (A : Option Addr) (c : Nat), Kd.C k49 W A0 list.length list → Kd.C kInt W A st'.length st' → st'.length ≤ c → Calls Try.prog 71 #[.slice A0 list.length c0, .slice A st'.length c] W fun e w' => e = .returned (.int .i64 bv) ∧ Below W.heap.size W w') :=
        ⟨fun W A c h1 h2 h3 => impl_bearsMore.calls (st'.length + 1) A0 c0 list A c st' bv W h1 hc0 h2 h3 hbm⟩
      have HMAY := Aside0.mk hmay
      have HCV := Aside0.mk hcv
      have HL1 := Aside0.mk hl'
      clear hst' hct hbm hmay hcv hbv hin' hl'
      cases cv with
      | true =>
        go_wp2_with (first
          | (go_at_call 69; refine (clone_int A1 c1 st _ (HCr.out _ (Below.refl _ _)) hc1 (by omega)).mono ?_; rintro e w6 ⟨v6, rfl, hR6, hb6⟩)
          | (at_builtin; refine Kd.R_append kInt (w0 := w6) wr.heap.size rfl (.tmp 16) (.tmp 18) 41 3 (.int .i64 0) 8 rfl Try.underlying41 info3 rfl (by decide) (by omega) v6 st (j : Int) [.int .i64 (j : Int)] (fun k => wr.heap.size ≤ k) (fun _ => False) rfl rfl ?aP (fun _ hk => hk.elim) ?aF ?aO (Below.refl _ _) ?aS ?aL ?_;
              (case aP => exact rfl);
              (case aF => exact fun k hk => Nat.le_trans hb6.size hk);
              (case aO => exact Kd.R_mono (Kd.R_bound hR6) (fun k hk => hk.2.1));
              (case aS => exact hb6.size);
              (case aL => omega);
              rw [← HST'.out]; intro v7 w7 hR7 hb7 hg7 hat7; obtain ⟨A7, c7, rfl⟩ := Kd.R_slice hR7; have B7 := Aside0.mk (hb6.trans hb7))
          | (go_at_call 70; refine (slices_Contains_int_int.calls (st.length + 1) A1 c1 st (j : Int) _ _ (HCr.out _ B7.out) hc1 HCT.out).mono ?_; rintro e w8 ⟨rfl, hdr⟩; obtain ⟨nd, hnd⟩ := hdr; have hb8 : Below w7.heap.size w7 w8 := (by rw [hnd]; exact pw_below_drewN (Below.refl _ _) nd); clear hnd; have B8 := Aside0.mk (B7.out.trans (hb8.mono B7.out.size)); have q8 := (box_fr XI.out (FF.out.then B8.out) ni).cell; have p8 := (box_fr XC.out (FF.out.then B8.out) nc).cell)
          | (go_at_call 71; obtain ⟨A', c', he, hle, hC7⟩ := Kd.R_reads (Kd.R_below hR7 hb8); injection he with he1 he2 he3; subst he1 he3; refine (HBC.out w8 A7 c7 (hC _ (FF.out.then B8.out)) hC7 hle).mono ?_; rintro e w9 ⟨rfl, hb9⟩; have B9 := Aside0.mk (B8.out.trans (hb9.mono B8.out.size)); have p9 := (box_fr XC.out (FF.out.then B9.out) nc).cell)
          | (go_at_call 68; refine (IH.out t w9 (.slice A7 st'.length c7) st' HD'.out (FF.out.then B9.out) (T.st _ _ _ HST.out B9.out) (Kd.R_mono (Kd.R_lower (Kd.R_below (Kd.R_below hR7 hb8) hb9) HBR.out) (fun k hk hs => by have := HSR.out k hs; omega)) HIN'.out HL'.out).mono ?_; rintro e w10 ⟨rfl, hI10, hF10⟩))
        go_roundg (list.length - (j + 1))
        case measure => omega
        case rel =>
          refine ⟨j + 1, by go_num, by omega, by omega, ⟨t, T.st _ _ _ HST.out B8.out, ?_⟩, ⟨GG.out.then B8.out⟩⟩
          rw [← HFO.out, restV_step list d st j hlt, if_neg (by rw [HMAY.out]; simp), List.nil_append]
      | false =>
        by_cases hbv : 0 ≤ bv
        · have hm : mayV list st j = true := by rw [HMAY.out]; simp [hbv]
          have hfr := may_free list st j hlt hm
          rw [← HST'.out] at hfr
          have HD' : Aside0 (freeV list st' < d) := ⟨by omega⟩
          have HL' : Aside0 (st'.length + freeV list st' ≤ list.length) := ⟨by have := HL1.out; omega⟩
          have HM := Aside0.mk hm
          clear hfr hm
          go_wp2_with (first
            | (go_at_call 69; refine (clone_int A1 c1 st _ (HCr.out _ (Below.refl _ _)) hc1 (by omega)).mono ?_; rintro e w6 ⟨v6, rfl, hR6, hb6⟩)
            | (at_builtin; refine Kd.R_append kInt (w0 := w6) wr.heap.size rfl (.tmp 16) (.tmp 18) 41 3 (.int .i64 0) 8 rfl Try.underlying41 info3 rfl (by decide) (by omega) v6 st (j : Int) [.int .i64 (j : Int)] (fun k => wr.heap.size ≤ k) (fun _ => False) rfl rfl ?aP (fun _ hk => hk.elim) ?aF ?aO (Below.refl _ _) ?aS ?aL ?_;
                (case aP => exact rfl);
                (case aF => exact fun k hk => Nat.le_trans hb6.size hk);
                (case aO => exact Kd.R_mono (Kd.R_bound hR6) (fun k hk => hk.2.1));
                (case aS => exact hb6.size);
                (case aL => omega);
                rw [← HST'.out]; intro v7 w7 hR7 hb7 hg7 hat7; obtain ⟨A7, c7, rfl⟩ := Kd.R_slice hR7; have B7 := Aside0.mk (hb6.trans hb7))
            | (go_at_call 70; refine (slices_Contains_int_int.calls (st.length + 1) A1 c1 st (j : Int) _ _ (HCr.out _ B7.out) hc1 HCT.out).mono ?_; rintro e w8 ⟨rfl, hdr⟩; obtain ⟨nd, hnd⟩ := hdr; have hb8 : Below w7.heap.size w7 w8 := (by rw [hnd]; exact pw_below_drewN (Below.refl _ _) nd); clear hnd; have B8 := Aside0.mk (B7.out.trans (hb8.mono B7.out.size)); have q8 := (box_fr XI.out (FF.out.then B8.out) ni).cell; have p8 := (box_fr XC.out (FF.out.then B8.out) nc).cell)
            | (go_at_call 71; obtain ⟨A', c', he, hle, hC7⟩ := Kd.R_reads (Kd.R_below hR7 hb8); injection he with he1 he2 he3; subst he1 he3; refine (HBC.out w8 A7 c7 (hC _ (FF.out.then B8.out)) hC7 hle).mono ?_; rintro e w9 ⟨rfl, hb9⟩; have B9 := Aside0.mk (B8.out.trans (hb9.mono B8.out.size)); have p9 := (box_fr XC.out (FF.out.then B9.out) nc).cell)
            | (go_at_call 68; refine (IH.out t w9 (.slice A7 st'.length c7) st' HD'.out (FF.out.then B9.out) (T.st _ _ _ HST.out B9.out) (Kd.R_mono (Kd.R_lower (Kd.R_below (Kd.R_below hR7 hb8) hb9) HBR.out) (fun k hk hs => by have := HSR.out k hs; omega)) HIN'.out HL'.out).mono ?_; rintro e w10 ⟨rfl, hI10, hF10⟩))
          go_roundg (list.length - (j + 1))
          case measure => omega
          case rel =>
            refine ⟨j + 1, by go_num, by omega, by omega, ⟨_, hI10, ?_⟩, ⟨(GG.out.then B9.out).trans hF10⟩⟩
            rw [← HFO.out, restV_step list d st j hlt, if_pos HM.out, List.foldl_append, ← HST'.out]
        · have hm : mayV list st j = false := by rw [HMAY.out]; simp [hbv]
          have HM := Aside0.mk hm
          clear hm
          go_wp2_with (first
            | (go_at_call 69; refine (clone_int A1 c1 st _ (HCr.out _ (Below.refl _ _)) hc1 (by omega)).mono ?_; rintro e w6 ⟨v6, rfl, hR6, hb6⟩)
            | (at_builtin; refine Kd.R_append kInt (w0 := w6) wr.heap.size rfl (.tmp 16) (.tmp 18) 41 3 (.int .i64 0) 8 rfl Try.underlying41 info3 rfl (by decide) (by omega) v6 st (j : Int) [.int .i64 (j : Int)] (fun k => wr.heap.size ≤ k) (fun _ => False) rfl rfl ?aP (fun _ hk => hk.elim) ?aF ?aO (Below.refl _ _) ?aS ?aL ?_;
                (case aP => exact rfl);
                (case aF => exact fun k hk => Nat.le_trans hb6.size hk);
                (case aO => exact Kd.R_mono (Kd.R_bound hR6) (fun k hk => hk.2.1));
                (case aS => exact hb6.size);
                (case aL => omega);
                rw [← HST'.out]; intro v7 w7 hR7 hb7 hg7 hat7; obtain ⟨A7, c7, rfl⟩ := Kd.R_slice hR7; have B7 := Aside0.mk (hb6.trans hb7))
            | (go_at_call 70; refine (slices_Contains_int_int.calls (st.length + 1) A1 c1 st (j : Int) _ _ (HCr.out _ B7.out) hc1 HCT.out).mono ?_; rintro e w8 ⟨rfl, hdr⟩; obtain ⟨nd, hnd⟩ := hdr; have hb8 : Below w7.heap.size w7 w8 := (by rw [hnd]; exact pw_below_drewN (Below.refl _ _) nd); clear hnd; have B8 := Aside0.mk (B7.out.trans (hb8.mono B7.out.size)); have q8 := (box_fr XI.out (FF.out.then B8.out) ni).cell; have p8 := (box_fr XC.out (FF.out.then B8.out) nc).cell)
            | (go_at_call 71; obtain ⟨A', c', he, hle, hC7⟩ := Kd.R_reads (Kd.R_below hR7 hb8); injection he with he1 he2 he3; subst he1 he3; refine (HBC.out w8 A7 c7 (hC _ (FF.out.then B8.out)) hC7 hle).mono ?_; rintro e w9 ⟨rfl, hb9⟩; have B9 := Aside0.mk (B8.out.trans (hb9.mono B8.out.size)); have p9 := (box_fr XC.out (FF.out.then B9.out) nc).cell)
            | (go_at_call 68; refine (IH.out t w9 (.slice A7 st'.length c7) st' HD'.out (FF.out.then B9.out) (T.st _ _ _ HST.out B9.out) (Kd.R_mono (Kd.R_lower (Kd.R_below (Kd.R_below hR7 hb8) hb9) HBR.out) (fun k hk hs => by have := HSR.out k hs; omega)) HIN'.out HL'.out).mono ?_; rintro e w10 ⟨rfl, hI10, hF10⟩))
          go_roundg (list.length - (j + 1))
          case measure => omega
          case rel =>
            refine ⟨j + 1, by go_num, by omega, by omega, ⟨t, T.st _ _ _ HST.out B9.out, ?_⟩, ⟨GG.out.then B9.out⟩⟩
            rw [← HFO.out, restV_step list d st j hlt, if_neg (by rw [HM.out]; decide), List.nil_append]
    · have hltz : ¬ (j : Int) < (list.length : Int) := by omega
      go_wp2
      go_end0
      obtain ⟨t, hst, hr⟩ := II.out
      rw [restV_end list d st j (by omega)] at hr
      refine ⟨rfl, ?_, GG.out⟩
      rw [← hr]
      exact hst
end Go.Proofs.Ytbmefldckdaopaa.Q

namespace Go.Proofs.Ytbmefldckdaopaa.Q
open Go.RowKit Go.Shelf Go.Proofs.YtbmefldckdaopaaW.PrintWords Go.Proofs.YtbmefldckdaopaaW.PrintLast Go.Proofs.YtbmefldckdaopaaW.PrintMore
set_option linter.unusedVariables false
set_option linter.unusedSimpArgs false

/-- All safe stacks, in order. -/
def allS (list : List Thing) : List (List Int) := treeV list (list.length + 1) []

set_option maxRecDepth 100000 in
set_option maxHeartbeats 4000000 in
theorem safeStacks_calls {σ : Type} (list : List Thing) (A0 : Option Addr) (c0 : Nat) (S : Nat → Prop) (I : σ → World → Prop) (base : Nat) (w : World) (ge : Nat) (bde fre : Array Value) (step : σ → List Int → σ) (s : σ)
    (hn : list.length ≤ 1000) (T : One list S I base w ge bde fre step) (hb : base ≤ w.heap.size) (hSl : ∀ k, S k → k < w.heap.size)
    (hC : ∀ W, Fr S w W → Kd.C k49 W A0 list.length list) (hc0 : list.length ≤ c0) (hI : I s w) :
    Calls Try.prog 63 #[.slice A0 list.length c0, .func (.func ge) bde fre] w fun e w' => e = .returned (.tuple #[]) ∧ I ((allS list).foldl step s) w' ∧ Fr S w w' := by
  have x1 := Boxed.new w 25 (.slice A0 list.length c0)
  obtain ⟨w1, e1⟩ : ∃ w1, w.alloc (.cells #[.slice A0 list.length c0] 25) = w1 := ⟨_, rfl⟩
  have b1 : Below w.heap.size w w1 := by rw [← e1]; exact (Below.refl _ w).alloc (Nat.le_refl _) _
  rw [e1] at x1
  have x2 := Boxed.new w1 72 (.func (.func ge) bde fre)
  have y1 := x1.alloc (.cells #[.func (.func ge) bde fre] 72)
  obtain ⟨w2, e2⟩ : ∃ w2, w1.alloc (.cells #[.func (.func ge) bde fre] 72) = w2 := ⟨_, rfl⟩
  have b2 : Below w.heap.size w w2 := by rw [← e2]; exact b1.alloc b1.size _
  rw [e2] at x2 y1
  obtain ⟨fv, hfv⟩ : ∃ fv : Value, fv = .func (.func 68) #[] #[.pointer (some ⟨w1.heap.size, 0, none⟩), .pointer (some ⟨w.heap.size, 0, none⟩), .pointer (some ⟨w2.heap.size, 0, none⟩)] := ⟨_, rfl⟩
  have x3 := Boxed.new w2 72 fv
  have y2 := x2.alloc (.cells #[fv] 72)
  have u1 := y1.alloc (.cells #[fv] 72)
  obtain ⟨w4, e4⟩ : ∃ w4, w2.alloc (.cells #[fv] 72) = w4 := ⟨_, rfl⟩
  have b4 : Below w.heap.size w w4 := by rw [← e4]; exact b2.alloc b2.size _
  rw [e4] at x3 y2 u1
  have F4 : Fr S w w4 := Fr.of b4
  have nS : ∀ k, w.heap.size ≤ k → ¬ S k := fun k hk hs => by have := hSl k hs; omega
  have hcall := chooseS_calls list A0 c0 S I base w4 ge bde fre step w.heap.size w1.heap.size w2.heap.size hn (T.later F4) (Nat.le_trans hb b4.size) (fun k hk => Nat.lt_of_lt_of_le (hSl k hk) b4.size) (fun W h => hC W (F4.trans h)) hc0 u1 y2 (hfv ▸ x3) (nS _ (Nat.le_refl _)) (nS _ b1.size) (nS _ b2.size)
    (list.length + 1) s w4 (.slice none 0 0) [] (by rw [free_nil]; omega) (Fr.refl _ _) (T.st _ _ _ hI b4) (Kd.R_nil _ _ _ _ _) (fun x hx => by cases hx) (by rw [free_nil]; simp)
  have HCALL := Aside0.mk hcall
  have q4 := x3.cell
  have HF4 := Aside0.mk F4
  clear hcall x1 x2 x3 y1 y2 u1 b1 b2 b4 T hC hI F4
  subst hfv
  go_enter Try.func63, Try.ntmps63
  go_wp2_with (go_at_call 68; refine HCALL.out.mono ?_; rintro e w5 ⟨rfl, hI5, hF5⟩)
  go_end0
  exact ⟨rfl, hI5, HF4.out.trans hF5⟩

/-! bestSafe -/
abbrev BestS := List Int × Int
def bestStepS (sc : List Int → Int) (s : BestS) (st : List Int) : BestS := if s.2 < sc st then (st, sc st) else s
/-- What the score is. -/
def ScoreS (list : List Thing) (w : World) (g : Nat) (fr : Array Value) (sc : List Int → Int) : Prop :=
  ∀ (W : World) (A : Option Addr) (c : Nat) (st : List Int), Below w.heap.size w W → Inside list st → st.length ≤ list.length → Kd.C kInt W A st.length st → st.length ≤ c →
    Calls Try.prog g (#[.slice A st.length c] ++ fr) W fun e w' => e = .returned (.int .i64 (sc st)) ∧ Below W.heap.size W w'
def TwoV (base Bb Bm : Nat) (s : BestS) (W : World) : Prop :=
  (∃ v, Boxed W Bb 41 v ∧ Kd.R kInt 3 W base (fun k => ¬ (k = Bb ∨ k = Bm)) v s.1) ∧ Boxed W Bm 3 (.int .i64 s.2)
theorem TwoV.later {base Bb Bm : Nat} {s : BestS} {W W' : World} (h : TwoV base Bb Bm s W) (hb : Below W.heap.size W W') : TwoV base Bb Bm s W' := by
  obtain ⟨⟨v, h1, h2⟩, h3⟩ := h
  exact ⟨⟨v, box_below h1 hb, Kd.R_below h2 hb⟩, box_below h3 hb⟩

set_option maxRecDepth 100000 in
set_option maxHeartbeats 4000000 in
theorem bestSafe1_calls (list : List Thing) (w : World) (g : Nat) (fr : Array Value) (sc : List Int → Int) (eg : ∀ args w, (callFunc g args).run Try.prog w = .ok (.enter g args) w) (hsc : ScoreS list w g fr sc) (base Bs Bb Bm : Nat) (hbm : Bb ≠ Bm)
    (s : BestS) (W : World) (v : Value) (st : List Int) (hW : Below w.heap.size w W) (hs : Boxed W Bs 61 (.func (.func g) #[] fr)) (hI : TwoV base Bb Bm s W) (hv : Kd.R kInt 3 W base (fun k => ¬ (k = Bb ∨ k = Bm)) v st) (hin : Inside list st) (hl : st.length ≤ list.length) :
    Calls Try.prog 66 #[v, .pointer (some ⟨Bs, 0, none⟩), .pointer (some ⟨Bm, 0, none⟩), .pointer (some ⟨Bb, 0, none⟩)] W
      fun e w' => e = .returned (.tuple #[]) ∧ TwoV base Bb Bm (bestStepS sc s st) w' ∧ Fr (fun k => k = Bb ∨ k = Bm) W w' := by
  obtain ⟨A1, c1, rfl, hc1, hC1⟩ := Kd.R_reads hv
  have hcall := hsc W A1 c1 st hW hin hl hC1 hc1
  have HI := Aside0.mk hI
  have HV := Aside0.mk hv
  have q1 := hs.cell
  have HL := Aside0.mk hl
  clear hI hv hC1 hs hW hin hl
  generalize hn : sc st = n at hcall
  have HN := Aside0.mk hn
  clear hn
  have hbm2 := Ne.symm hbm
  obtain ⟨b, m⟩ := s
  go_enter Try.func66, Try.ntmps66
  by_cases h1 : m < n
  · go_wp2_with (go_at_fn g; refine hcall.mono ?_; rintro e w2 ⟨rfl, hb2⟩; have B2 := Aside0.mk hb2; obtain ⟨⟨vb, xb, xr⟩, xm⟩ := HI.out.later B2.out; have qm := xm.cell; have fm := xm.frozen; have fb := xb.frozen; have qb := xb.cell)
    go_end0
    have hF : Fr (fun k => k = Bb ∨ k = Bm) W ((w2.setCell ⟨Bb, 0, none⟩ (.slice A1 st.length c1)).setCell ⟨Bm, 0, none⟩ (.int .i64 n)) :=
      ((Fr.of B2.out).set _ _ (.inl (.inl rfl))).set _ _ (.inl (.inr rfl))
    refine ⟨rfl, ?_, hF⟩
    unfold bestStepS
    rw [HN.out, if_pos h1]
    exact ⟨⟨_, (xb.set _).other hbm _, R_fr HV.out hF (fun _ h => h)⟩, (xm.other hbm2 _).set _⟩
  · go_wp2_with (go_at_fn g; refine hcall.mono ?_; rintro e w2 ⟨rfl, hb2⟩; have B2 := Aside0.mk hb2; obtain ⟨⟨vb, xb, xr⟩, xm⟩ := HI.out.later B2.out; have qm := xm.cell; have fm := xm.frozen; have fb := xb.frozen; have qb := xb.cell)
    go_end0
    refine ⟨rfl, ?_, Fr.of B2.out⟩
    unfold bestStepS
    rw [HN.out, if_neg (by simp only; omega)]
    exact ⟨⟨_, xb, xr⟩, xm⟩

def bestAllS (list : List Thing) (sc : List Int → Int) : BestS := (allS list).foldl (bestStepS sc) ([], -1)

set_option maxRecDepth 100000 in
set_option maxHeartbeats 4000000 in
theorem bestSafe_calls (list : List Thing) (A0 : Option Addr) (c0 : Nat) (g : Nat) (fr : Array Value) (sc : List Int → Int) (w : World) (eg : ∀ args w, (callFunc g args).run Try.prog w = .ok (.enter g args) w) (hsc : ScoreS list w g fr sc)
    (hn : list.length ≤ 1000) (hr0 : Kd.C k49 w A0 list.length list) (hc0 : list.length ≤ c0) (r : BestS) (hr : bestAllS list sc = r) :
    Calls Try.prog 51 #[.slice A0 list.length c0, .func (.func g) #[] fr] w fun e w' => ∃ v0_ : Value, e = .returned (.tuple #[v0_, .int .i64 r.2]) ∧ Kd.R kInt 3 w' w.heap.size (fun _ => True) v0_ r.1 ∧ Below w.heap.size w w' := by
  have HR0 := Aside0.mk hr0
  have HSC := Aside0.mk hsc
  have HRR := Aside0.mk hr
  clear hr0 hsc hr
  go_enter Try.func51, Try.ntmps51
  go_wp2_with fail
  have x1 := ((Boxed.new w 61 (.func (.func g) #[] fr)).alloc (.cells #[.slice none 0 0] 41)).alloc (.cells #[.int .i64 (-1)] 3)
  have x2 := (Boxed.new (w.alloc (.cells #[.func (.func g) #[] fr] 61)) 41 (.slice none 0 0)).alloc (.cells #[.int .i64 (-1)] 3)
  have x3 := Boxed.new ((w.alloc (.cells #[.func (.func g) #[] fr] 61)).alloc (.cells #[.slice none 0 0] 41)) 3 (.int .i64 (-1))
  have b5 : Below w.heap.size w (((w.alloc (.cells #[.func (.func g) #[] fr] 61)).alloc (.cells #[.slice none 0 0] 41)).alloc (.cells #[.int .i64 (-1)] 3)) :=
    (((Below.refl _ w).alloc (by simp) _).alloc (by simp) _).alloc (by simp <;> omega) _
  have z5 : (((w.alloc (.cells #[.func (.func g) #[] fr] 61)).alloc (.cells #[.slice none 0 0] 41)).alloc (.cells #[.int .i64 (-1)] 3)).heap.size = w.heap.size + 3 := by simp
  generalize (((w.alloc (.cells #[.func (.func g) #[] fr] 61)).alloc (.cells #[.slice none 0 0] 41)).alloc (.cells #[.int .i64 (-1)] 3)) = W5 at x1 x2 x3 b5 z5 ⊢
  simp only [show ∀ (W : World) (o : Obj), (W.alloc o).heap.size = W.heap.size + 1 from fun W o => by simp] at x1 x2 x3
  have h3 : TwoV w.heap.size (w.heap.size + 1) (w.heap.size + 1 + 1) ([], -1) W5 := ⟨⟨_, x2, Kd.R_nil _ _ _ _ _⟩, x3⟩
  have hT : One list (fun k => k = w.heap.size + 1 ∨ k = w.heap.size + 1 + 1) (TwoV w.heap.size (w.heap.size + 1) (w.heap.size + 1 + 1)) w.heap.size W5
      66 #[] #[.pointer (some ⟨w.heap.size, 0, none⟩), .pointer (some ⟨w.heap.size + 1 + 1, 0, none⟩), .pointer (some ⟨w.heap.size + 1, 0, none⟩)] (bestStepS sc) := by
    refine ⟨enters_of Try.func66 (by kernel_rfl) rfl, fun s W W' h hb => h.later hb, fun s W v st hF hI hv hin hl => ?_⟩
    exact bestSafe1_calls list w g fr sc eg HSC.out w.heap.size w.heap.size (w.heap.size + 1) (w.heap.size + 1 + 1) (by omega) s W v st (b5.trans (hF.below (fun k hk => by omega) b5.size)) (box_fr x1 hF (by omega)) hI hv hin hl
  have hcall := safeStacks_calls list A0 c0 _ _ w.heap.size W5 _ _ _ _ ([], -1) hn hT b5.size (fun k hk => by rw [z5]; omega)
    (fun W h => Kd.C_below HR0.out (b5.trans (h.below (fun k hk => by omega) b5.size))) hc0 h3
  rw [show (allS list).foldl (bestStepS sc) ([], -1) = r from HRR.out] at hcall
  have B5 := Aside0.mk b5
  clear x1 x2 x3 h3 hT b5 z5
  go_wp2_with (go_at_call 63; refine hcall.mono ?_; rintro e w6 ⟨rfl, ⟨⟨v, xb, xr⟩, xm⟩, hF6⟩)
  obtain ⟨A1, c1, rfl⟩ := Kd.R_slice xr
  have q1 := xb.cell
  have q2 := xm.cell
  have HX := Aside0.mk xr
  clear xr
  go_region
  all_goals
    go_wp2
    go_ret2
    exact ⟨_, rfl, Kd.R_mono HX.out (fun _ _ => trivial), (B5.out.trans (hF6.below (fun k hk => by omega) B5.out.size)).drew⟩
end Go.Proofs.Ytbmefldckdaopaa.Q

namespace Go.Proofs.Ytbmefldckdaopaa.Q
open Go.RowKit Go.Shelf Go.Proofs.YtbmefldckdaopaaW.PrintWords Go.Proofs.YtbmefldckdaopaaW.PrintLast Go.Proofs.YtbmefldckdaopaaW.PrintMore
set_option linter.unusedVariables false
set_option linter.unusedSimpArgs false

theorem scoreHigh_ok (list : List Thing) (A0 : Option Addr) (c0 : Nat) (w : World) (B : Nat) (hn : list.length ≤ 1000) (hx : Boxed w B 25 (.slice A0 list.length c0)) (hC : Kd.C k49 w A0 list.length list) (hc0 : list.length ≤ c0) :
    ScoreS list w 54 #[.pointer (some ⟨B, 0, none⟩)] (highV list) := by
  intro W A c st hW hin hl hC1 hc
  have q1 := (box_below hx hW).cell
  have hcall := impl_high.calls (st.length + 1) A0 c0 list A c st (highV list st) W (Kd.C_below hC hW) hc0 hC1 hc (high_eq list st hin (by omega) _ (by omega))
  clear hx hC hC1 hW
  simp only [List.append_toArray, List.cons_append, List.nil_append]
  go_enter Try.func54, Try.ntmps54
  go_wp2_with (go_at_call 55; refine hcall.mono ?_; rintro e w' ⟨rfl, hdr⟩)
  go_ret
  obtain ⟨nd, hnd⟩ := hdr
  exact ⟨rfl, by rw [hnd]; exact pw_below_drewN (Below.refl _ _) nd⟩

def impl_TallestStack.f (l0 : List Thing) : Option (List Int × Int × Bool) :=
  (impl_AreStackable.f l0).bind fun t => if t = true then (if l0.length ≤ 1000 then some ((bestAllS l0 (highV l0)).1, (bestAllS l0 (highV l0)).2, true) else none) else some ([], 0, false)
set_option maxHeartbeats 2000000 in
theorem impl_TallestStack.calls (A0 : Option Addr) (c0 : Nat) (l0 : List Thing) (r1 : List Int) (r2 : Int) (r3 : Bool) (w : World) (hr0 : Kd.C k49 w A0 l0.length l0) (hc0 : l0.length ≤ c0) (h : impl_TallestStack.f l0 = some (r1, r2, r3)) :
    Calls Try.prog 37 #[.slice A0 l0.length c0] w fun e w' => ∃ v0_ : Value, e = .returned (.tuple #[v0_, .int .i64 r2, .bool r3]) ∧ Kd.R (Kd.int .i64) 3 w' w.heap.size (fun _ => True) v0_ r1 ∧ Below w.heap.size w w' := by
  unfold impl_TallestStack.f at h
  obtain ⟨t, ht, h⟩ := Option.bind_eq_some_iff.mp h
  have b1 : Below w.heap.size w (w.alloc (.cells #[.slice A0 l0.length c0] 25)) := (Below.refl _ w).alloc (Nat.le_refl _) _
  have hare := impl_AreStackable.calls A0 c0 l0 t _ (Kd.C_below hr0 b1) hc0 ht
  have x1 := Boxed.new w 25 (.slice A0 l0.length c0)
  have HR := Aside0.mk hr0
  have X1 := Aside0.mk x1
  have B1 := Aside0.mk b1
  clear hr0 ht x1 b1
  cases t with
  | false =>
    have hr : [] = r1 ∧ 0 = r2 ∧ false = r3 := by simpa using h
    obtain ⟨rfl, rfl, rfl⟩ := hr
    clear h
    go_enter Try.func37, Try.ntmps37
    go_wp2_with (go_at_call 15; refine hare.mono ?_; rintro e w' ⟨rfl, hb⟩)
    go_ret3
    exact ⟨_, rfl, Kd.R_nil _ _ _ _ _, B1.out.trans (hb.mono B1.out.size)⟩
  | true =>
    have hn : l0.length ≤ 1000 := by
      by_cases hn : l0.length ≤ 1000
      · exact hn
      · simp [hn] at h
    have hr : (bestAllS l0 (highV l0)).1 = r1 ∧ (bestAllS l0 (highV l0)).2 = r2 ∧ true = r3 := by simpa [hn] using h
    obtain ⟨hr1, hr2, rfl⟩ := hr
    have HR1 := Aside0.mk hr1
    have HR2 := Aside0.mk hr2
    clear h hr1 hr2
    have eg := enters_of Try.func54 (by kernel_rfl) rfl
    go_enter Try.func37, Try.ntmps37
    go_wp2_with (first
      | (go_at_call 15; refine hare.mono ?_; rintro e w' ⟨rfl, hb⟩; have B2 := Aside0.mk (B1.out.trans (hb.mono B1.out.size)); have X2 := Aside0.mk (box_below X1.out hb); have q2 := X2.out.cell)
      | (go_at_call 51; refine (bestSafe_calls l0 A0 c0 _ _ _ _ eg (scoreHigh_ok l0 A0 c0 _ _ hn X2.out (Kd.C_below HR.out B2.out) hc0) hn (Kd.C_below HR.out B2.out) hc0 _ rfl).mono ?_; rintro e w6 ⟨v, rfl, hR, hb6⟩; obtain ⟨A1, c1, rfl⟩ := Kd.R_slice hR))
    go_ret3
    obtain rfl := HR2.out
    obtain rfl := HR1.out
    exact ⟨_, rfl, Kd.R_lower hR B2.out.size, B2.out.trans (hb6.mono B2.out.size)⟩
end Go.Proofs.Ytbmefldckdaopaa.Q
