/-
  PROVED: for all arguments, the program's LengthsText returns what the reference's returns.
  CONDITIONS: none beyond the statement's own.
-/
import Derived.Test.YtbpjgbiclpkdnaaDoorZFnExactLengthsText1
import Derived.IntWalk
import Derived.Laws.EntriesVeiled
import Derived.Lib.SmallJoins
import Derived.Deep.Slices
import Derived.Deep.Fields
import Derived.ChangeSame
import Derived.SizedLaws
import Derived.ChangeSlices
import Derived.Test.YtbpjgbiclpkdnaaDoorWWords
import Derived.Test.YtbpjgbiclpkdnaaDoorRows
import Derived.Test.YtbpjgbiclpkdnaaDoorCards
import Derived.Test.YtbpjgbiclpkdnaaDoorTie
import Derived.Lay
import Derived.LaidMore
import Derived.LaidOnce
import Derived.SevenTiedAt
import Derived.WalkKit
import Derived.ProofKit
import Derived.OpenShut
import Derived.ShutString
import Derived.ChangeOld
import Derived.Below
import Derived.Test.YtbpjgbiclpkdnaaDoorWSized
namespace Go.Proofs.YtbpjgbiclpkdnaaDoor.Q
open Go.RowKit Go.Proofs.YtbpjgbiclpkdnaaDoorW.PrintWords Go.Proofs.YtbpjgbiclpkdnaaDoorW.PrintLast Go.Proofs.YtbpjgbiclpkdnaaDoorW.PrintMore
set_option linter.unusedVariables false
set_option linter.unusedSimpArgs false

theorem w64 {i : Int} (h0 : -1000000000000000 ≤ i) (h : i ≤ 1000000000000000) : wrap64 i = i := by
  unfold wrap64; omega
theorem rd_nat (xs : List Int) (i : Nat) (h : i < xs.length) : rd xs (i : Int) = xs[i] := by
  simp [rd, List.getD_eq_getElem?_getD, h]

theorem eqIntS_l0 (a : List Int) (hn : a.length ≤ 100000000000000) : ∀ d k i, i + d = a.length → d < k → laws_eqIntS.l0 k a a (i : Int) = some true := by
  intro d
  induction d with
  | zero =>
    intro k i hi hk
    obtain ⟨k, rfl⟩ : ∃ m, k = m + 1 := ⟨k - 1, by omega⟩
    simp only [laws_eqIntS.l0]; rw [if_neg (by omega)]
  | succ d ih =>
    intro k i hi hk
    obtain ⟨k, rfl⟩ : ∃ m, k = m + 1 := ⟨k - 1, by omega⟩
    simp only [laws_eqIntS.l0]; rw [if_pos (by omega), if_pos (by omega), if_pos (by omega), if_pos trivial, w64 (by omega) (by omega)]
    exact ih k (i + 1) (by omega) (by omega)
theorem eqIntS_self (a : List Int) (hn : a.length ≤ 100000000000000) (k : Nat) (hk : a.length < k) : laws_eqIntS.f k a a = some true := by
  unfold laws_eqIntS.f
  rw [if_pos rfl]
  exact eqIntS_l0 a hn a.length k 0 (by omega) hk

/-- What a marked list holds. -/
def marks (a : Int) (n : Nat) : List Int := (List.range n).map fun (j : Nat) => a + (j : Int)
theorem marks_length (a : Int) (n : Nat) : (marks a n).length = n := by simp [marks]
theorem marks_get (a : Int) (n : Nat) (i : Nat) (h : i < (marks a n).length) : (marks a n)[i] = a + (i : Int) := by simp [marks]

theorem markIntS_l0 (a : Int) (n : Nat) (h0 : 0 ≤ a) (hn : a + n ≤ 100000000000000) : ∀ d k i (x : List Int), i + d = n → d < k → x.length = n → (∀ j (hj : j < x.length), j < i → x[j] = a + (j : Int)) →
    laws_markIntS.l0 k x (a + (i : Int)) (i : Int) = some (a + (n : Int), marks a n) := by
  intro d
  induction d with
  | zero =>
    intro k i x hi hk hx hj
    obtain ⟨k, rfl⟩ : ∃ m, k = m + 1 := ⟨k - 1, by omega⟩
    simp only [laws_markIntS.l0]; rw [if_neg (by omega)]
    have : x = marks a n := by
      apply List.ext_getElem
      · rw [hx, marks_length]
      · intro j h1 h2
        rw [hj j h1 (by omega), marks_get]
    rw [this]
    have : i = n := by omega
    subst this; rfl
  | succ d ih =>
    intro k i x hi hk hx hj
    obtain ⟨k, rfl⟩ : ∃ m, k = m + 1 := ⟨k - 1, by omega⟩
    simp only [laws_markIntS.l0]; rw [if_pos (by omega), if_pos (by omega), w64 (i := a + (i : Int) + 1) (by omega) (by omega), w64 (i := (i : Int) + 1) (by omega) (by omega)]
    have := ih k (i + 1) (x.set (i : Int).toNat (a + (i : Int))) (by omega) (by omega) (by simp [hx]) (fun j hj1 hj2 => by
      simp only [Int.toNat_natCast]
      rw [List.getElem_set]
      split
      · rename_i e; rw [e]
      · rename_i e; exact hj j (by simpa using hj1) (by omega))
    rw [show a + ((i + 1 : Nat) : Int) = a + (i : Int) + 1 by omega, show ((i + 1 : Nat) : Int) = (i : Int) + 1 by omega] at this
    exact this
theorem markIntS_eq (x : List Int) (a : Int) (h0 : 0 ≤ a) (hn : a + x.length ≤ 100000000000000) (k : Nat) (hk : x.length < k) : laws_markIntS.f k x a = some (a + (x.length : Int), marks a x.length) := by
  unfold laws_markIntS.f
  have := markIntS_l0 a x.length h0 hn x.length k 0 x (by omega) hk rfl (fun j _ h => absurd h (by omega))
  simpa using this

theorem heldIntS_l0 (a : Int) (n : Nat) (h0 : 0 ≤ a) (hn : a + n ≤ 100000000000000) : ∀ d k i, i + d = n → d < k → laws_heldIntS.l0 k (marks a n) (a + (i : Int)) (i : Int) = some (a + (n : Int)) := by
  intro d
  induction d with
  | zero =>
    intro k i hi hk
    obtain ⟨k, rfl⟩ : ∃ m, k = m + 1 := ⟨k - 1, by omega⟩
    simp only [laws_heldIntS.l0]; rw [if_neg (by rw [marks_length]; omega)]
    have : i = n := by omega
    subst this; rfl
  | succ d ih =>
    intro k i hi hk
    obtain ⟨k, rfl⟩ : ∃ m, k = m + 1 := ⟨k - 1, by omega⟩
    simp only [laws_heldIntS.l0]
    rw [if_pos (by rw [marks_length]; omega), if_pos (by omega), if_pos (by rw [rd_nat _ i (by rw [marks_length]; omega), marks_get]), w64 (i := a + (i : Int) + 1) (by omega) (by omega), w64 (i := (i : Int) + 1) (by omega) (by omega)]
    have := ih k (i + 1) (by omega) (by omega)
    rw [show a + ((i + 1 : Nat) : Int) = a + (i : Int) + 1 by omega, show ((i + 1 : Nat) : Int) = (i : Int) + 1 by omega] at this
    exact this
theorem heldIntS_eq (n : Nat) (a : Int) (h0 : 0 ≤ a) (hn : a + n ≤ 100000000000000) (k : Nat) (hk : n < k) : laws_heldIntS.f k (marks a n) a = some (a + (n : Int)) := by
  unfold laws_heldIntS.f
  have := heldIntS_l0 a n h0 hn n k 0 (by omega) hk
  simpa using this
end Go.Proofs.YtbpjgbiclpkdnaaDoor.Q

namespace Go.Proofs.YtbpjgbiclpkdnaaDoor.Q
open Go.RowKit Go.Shelf Go.Proofs.YtbpjgbiclpkdnaaDoorW.PrintWords Go.Proofs.YtbpjgbiclpkdnaaDoorW.PrintLast Go.Proofs.YtbpjgbiclpkdnaaDoorW.PrintMore
set_option linter.unusedVariables false
set_option linter.unusedSimpArgs false

/-- The decimal text of a number. -/
def numB (x : Int) : ByteArray := ⟨(Lib.itoa x).toArray⟩
/-- Texts with a text between them. -/
def joinB (ps : List ByteArray) (by_ : ByteArray) : ByteArray := ⟨(Lib.join (ps.map (·.data.toList)) by_.data.toList).toArray⟩
/-- An empty row of one's own. -/
theorem R_empty {α : Type} (d : Kd α) (e : Nat) (W : World) (base : Nat) (ok : Nat → Prop) (hb : base ≤ W.heap.size) (hok : ok W.heap.size) : Kd.R d e (W.alloc (.cells #[] e)) base ok (.slice (some ⟨W.heap.size, 0, none⟩) 0 0) [] := by
  refine ⟨fun k hk => ?_, [], ?_, (by simp), fun j p hj => by cases hj⟩
  · have : W.heap.size = k := by simpa [Value.ownBlock] using hk
    subst this
    exact hok
  · have h2 := World.ownsRow_lit (base := base) (e := e) (size := d.sz) W #[] 0 hb (by decide) (by simp)
    exact h2
theorem join_calls (v : Value) (ps : List ByteArray) (sep : ByteArray) (base : Nat) (ok : Nat → Prop) (w : World) (hR : Kd.R Kd.string 9 w base ok v ps) (hn : ps.length ≤ 1000000) (hlen : (Lib.join (ps.map (·.data.toList)) sep.data.toList).length ≤ 140737488355328) :
    Calls Tryd.prog 64 #[v, .string sep] w fun e w' => e = .returned (.string (joinB ps sep)) ∧ Below w.heap.size w w' := by
  by_cases hp : 0 < ps.length
  · obtain ⟨g, cap, hv, _, hg, _⟩ := Kd.R_form hR hp
    subst hv
    obtain ⟨_, hcap, hC⟩ := Kd.R_reads' hR
    have h := Tryd.strings_Join g 0 cap ps sep w (fun j x hx => by
      have hj := (List.getElem?_eq_some_iff.1 hx).1
      obtain ⟨ad, cs, e, _, hK, hcell⟩ := Kd.C_get hC ByteArray.empty (j : Int) (by omega) (by omega)
      have e2 : ad = ⟨g, 0, none⟩ := by injection e with e; exact e.symm
      subst e2
      have hx2 : ps.getD (j : Int).toNat ByteArray.empty = x := by rw [Int.toNat_natCast, List.getD_eq_getElem?_getD, hx]; rfl
      rw [hx2] at hK
      have hcs : cs = [Value.string x] := hK
      subst hcs
      have h0 := hcell 0 _ rfl
      rw [Int.toNat_natCast, show j * Kd.string.sz + 0 = j by simp [Kd.string, Kd.scalar]] at h0
      rw [← h0]
      congr 1
      unfold Addr.add
      by_cases hj0 : j = 0
      · subst hj0; rfl
      · rw [if_neg hj0]) hg (by omega) hcap hlen
    exact h
  · have hnil : ps = [] := List.eq_nil_of_length_eq_zero (by omega)
    subst hnil
    obtain ⟨A, c, rfl⟩ := Kd.R_slice hR
    exact (Tryd.strings_Join_none A c sep w).mono (fun e w' h => ⟨h.1, by rw [h.2]; exact Below.refl _ _⟩)

set_option maxRecDepth 100000 in
set_option maxHeartbeats 4000000 in
theorem joined_gen (A0 : Option Addr) (c0 : Nat) (l0 : List Int) (a1 : ByteArray) (w : World) (hr0 : Kd.C (Kd.int .i64) w A0 l0.length l0) (hc0 : l0.length ≤ c0) (hn : l0.length ≤ 1000)
    (hit : ∀ x ∈ l0, ∀ W, Below w.heap.size w W → Calls Tryd.prog 72 #[.int .i64 x] W fun e w' => e = .returned (.string (numB x)) ∧ Below W.heap.size W w')
    (hlen : (Lib.join ((l0.map numB).map (·.data.toList)) a1.data.toList).length ≤ 140737488355328) :
    Calls Tryd.prog 51 #[.slice A0 l0.length c0, .string a1] w fun e w' => e = .returned (.string (joinB (l0.map numB) a1)) ∧ Below w.heap.size w w' := by
  have HR := Aside0.mk hr0
  have HIT := Aside0.mk hit
  have HLEN := Aside0.mk hlen
  have r1 := R_empty Kd.string 9 w w.heap.size (fun k => w.heap.size ≤ k) (Nat.le_refl _) (Nat.le_refl _)
  have b1 : Below w.heap.size w (w.alloc (.cells #[] 9)) := (Below.refl _ w).alloc (Nat.le_refl _) _
  have R1 := Aside0.mk r1
  have B1 := Aside0.mk b1
  clear hr0 hit hlen r1 b1
  go_enter Tryd.func51, Tryd.ntmps51
  go_wp2
  go_loopg [5, 11] l0.length (fun gg s5 s11 wr => ∃ (j : Nat) (A : Option Addr) (c : Nat), s5 = .slice A j c ∧ s11 = .int .i64 (j : Int) ∧ j ≤ l0.length ∧ l0.length - j ≤ gg ∧ Aside0 (Kd.R Kd.string 9 wr w.heap.size (fun k => w.heap.size ≤ k) (.slice A j c) ((l0.take j).map numB)) ∧ Aside0 (Below w.heap.size w wr))
  case atStart => exact ⟨0, _, _, rfl, rfl, by omega, by omega, R1, B1⟩
  case round =>
    obtain ⟨j, Ap, cp, rfl, rfl, hjn, hgg, RR, BB⟩ := hrel
    by_cases hlt : j < l0.length
    · have hltz : (j : Int) < (l0.length : Int) := by omega
      have hj0 : (0 : Int) ≤ (j : Int) := by omega
      obtain ⟨ad, e, q0⟩ := Kd.at_int (Kd.C_below HR.out BB.out) (j : Int) hj0 hltz
      subst e
      rw [Int.toNat_natCast, rd_nat l0 j hlt] at q0
      have hcall := HIT.out l0[j] (List.getElem_mem hlt) wr BB.out
      have hnext : (l0.take j).map numB ++ [numB l0[j]] = (l0.take (j + 1)).map numB := by rw [List.take_add_one, List.getElem?_eq_getElem hlt, List.map_append]; rfl
      generalize l0[j] = x at q0 hcall hnext
      generalize numB x = s at hcall hnext
      have hl : ((l0.take j).map numB).length = j := by rw [List.length_map, List.length_take]; omega
      have HNX := Aside0.mk hnext
      have HL := Aside0.mk hl
      have HCALL := Aside0.mk hcall
      have hwi : IntKind.i64.wrap ((j : Int) + 1) = ((j + 1 : Nat) : Int) := by rw [IntWalk.i64_in _ (by omega)]; omega
      clear hnext hcall hl
      generalize (l0.take j).map numB = ps at RR HNX HL
      go_wp2_with (first
        | (go_at_call 72; refine HCALL.out.mono ?_; rintro e w6 ⟨rfl, hb⟩; have B6 := Aside0.mk (BB.out.trans (hb.mono BB.out.size)); have R6 := Aside0.mk (Kd.R_below RR.out hb); clear hb)
        | (at_builtin; refine Kd.R_append Kd.string (w0 := w) w.heap.size rfl (.tmp 15) (.tmp 18) 61 9 (.string ⟨#[]⟩) 16 rfl Tryd.underlying61 info9 rfl (by decide) (by omega) (.slice Ap j cp) ps s [.string s] (fun k => w.heap.size ≤ k) (fun _ => False) rfl rfl ?aP (fun _ hk => hk.elim) ?aF ?aO ?aB ?aS ?aL ?_;
            (case aP => exact rfl);
            (case aF => exact fun k hk => Nat.le_trans B6.out.size hk);
            (case aO => exact R6.out);
            (case aB => exact B6.out);
            (case aS => exact B6.out.size);
            (case aL => have := HL.out; omega);
            intro v7 w7 hR7 hb7 hg7 hat7; rw [HNX.out] at hR7; have hsl := Kd.R_slice hR7; rw [show ((l0.take (j + 1)).map numB).length = j + 1 by rw [List.length_map, List.length_take]; omega] at hsl; obtain ⟨A7, c7, hv7⟩ := hsl; subst hv7; have R7 := Aside0.mk hR7; have B7 := Aside0.mk hb7; clear hR7 hb7 hg7 hat7))
      go_roundg (l0.length - (j + 1))
      case measure => omega
      case rel => exact ⟨j + 1, A7, c7, rfl, by go_num, by omega, by omega, R7, B7⟩
    · have hltz : ¬ (j : Int) < (l0.length : Int) := by omega
      have hR := RR.out
      rw [List.take_of_length_le (by omega)] at hR
      have hcall := join_calls _ (l0.map numB) a1 w.heap.size _ wr hR (by rw [List.length_map]; omega) HLEN.out
      have HCALL := Aside0.mk hcall
      clear hR hcall
      go_wp2_with (go_at_call 64; refine HCALL.out.mono ?_; rintro e w6 ⟨rfl, hb⟩; have B6 := Aside0.mk (BB.out.trans (hb.mono BB.out.size)); clear hb)
      go_ret
      exact ⟨rfl, B6.out⟩
theorem join_len (sep : List UInt8) (b : Nat) : ∀ xs : List (List UInt8), (∀ x ∈ xs, x.length ≤ b) → (Lib.join xs sep).length ≤ xs.length * (b + sep.length) := by
  intro xs
  induction xs with
  | nil => intro _; simp [Lib.join]
  | cons x xs ih =>
    intro h
    have h1 := h x (by simp)
    have h2 := ih (fun y hy => h y (by simp [hy]))
    unfold Lib.join at h2 ⊢
    rw [List.length_cons, Nat.succ_mul]
    cases xs with
    | nil => simp; omega
    | cons y ys =>
      rw [List.intercalate_cons_cons, List.length_append, List.length_append]
      omega
theorem dec_len : ∀ n : Nat, (Lib.decDigits n).length ≤ n + 1 := by
  intro n
  induction n using Nat.strongRecOn with
  | _ n ih =>
    rw [Lib.decDigits]
    split
    · simp
    · rw [List.length_append, List.length_singleton]
      have := ih (n / 10) (by omega)
      omega
/-- Few and short numbers, a short text between them. -/
def joinOk (l0 : List Int) (a1 : ByteArray) : Bool := decide (l0.length ≤ 1000) && decide (a1.size ≤ 100) && l0.all fun x => decide (0 ≤ x) && decide (x < 100)
def impl_joined.f (l0 : List Int) (a1 : ByteArray) : Option ByteArray := if joinOk l0 a1 = true then some (joinB (l0.map numB) a1) else none
theorem join_short (l0 : List Int) (a1 : ByteArray) (m : Nat) (hm : m ≤ 100000) (hn : l0.length ≤ 1000) (ha : a1.size ≤ 100) (h : ∀ x ∈ l0, 0 ≤ x ∧ x < (m : Int)) : (Lib.join ((l0.map numB).map (·.data.toList)) a1.data.toList).length ≤ 140737488355328 := by
  have h1 := join_len a1.data.toList (m + 1) ((l0.map numB).map (·.data.toList)) (fun x hx => by
    rw [List.map_map, List.mem_map] at hx
    obtain ⟨y, hy, rfl⟩ := hx
    have hy2 := h y hy
    show (Lib.itoa y).length ≤ m + 1
    unfold Lib.itoa
    rw [if_neg (by omega)]
    have := dec_len y.toNat
    omega)
  rw [List.length_map, List.length_map] at h1
  have h2 : a1.data.toList.length ≤ 100 := ha
  have h3 : l0.length * (m + 1 + a1.data.toList.length) ≤ 1000 * 100101 := Nat.mul_le_mul hn (by omega)
  omega
theorem impl_joined.calls (A0 : Option Addr) (c0 : Nat) (l0 : List Int) (a1 : ByteArray) (r : ByteArray) (w : World) (hr0 : Kd.C (Kd.int .i64) w A0 l0.length l0) (hc0 : l0.length ≤ c0) (h : impl_joined.f l0 a1 = some r) :
    Calls Tryd.prog 51 #[.slice A0 l0.length c0, .string a1] w fun e w' => e = .returned (.string r) ∧ Below w.heap.size w w' := by
  unfold impl_joined.f at h
  by_cases hb : joinOk l0 a1 = true
  case neg => rw [if_neg hb] at h; cases h
  rw [if_pos hb] at h
  injection h with h
  subst h
  unfold joinOk at hb
  simp only [Bool.and_eq_true, decide_eq_true_eq, List.all_eq_true] at hb
  refine joined_gen A0 c0 l0 a1 w hr0 hc0 hb.1.1 (fun x hx W hW => ?_) (join_short l0 a1 100 (by omega) hb.1.1 hb.1.2 (fun x hx => by have := hb.2 x hx; omega))
  obtain ⟨n, rfl⟩ : ∃ n : Nat, x = (n : Int) := ⟨x.toNat, by have := hb.2 x hx; omega⟩
  refine (Tryd.strconv_Itoa_small n (by have := hb.2 _ hx; omega) W).mono (fun e w' h => ⟨?_, by rw [h.2]; exact Below.refl _ _⟩)
  rw [h.1]
  unfold numB Lib.itoa
  rw [if_neg (by omega), Int.toNat_natCast]
end Go.Proofs.YtbpjgbiclpkdnaaDoor.Q

namespace Go.Proofs.YtbpjgbiclpkdnaaDoor.Q
open Go.RowKit Go.Proofs.YtbpjgbiclpkdnaaDoorW.PrintWords Go.Proofs.YtbpjgbiclpkdnaaDoorW.PrintLast Go.Proofs.YtbpjgbiclpkdnaaDoorW.PrintMore
attribute [local go_sem] max2_int min2_int max_two min_two max_three min_three max_four min_four   -- for this text's walks alone
set_option linter.unusedVariables false
set_option linter.unusedSimpArgs false

/-! ### impl_LengthsText: function 21 -/
def impl_LengthsText.f (k : Nat) (l0 : List Int) : Option (ByteArray × Bool) := (impl_AreLengths.f k l0).bind fun t284 => (if t284 = true then ((impl_joined.f l0 (⟨#[44]⟩ : ByteArray)).bind fun t285 => (some (t285, true))) else (some ((⟨#[]⟩ : ByteArray), false)))
theorem impl_LengthsText.mono : ∀ a0 k, LeO (impl_LengthsText.f k a0) (impl_LengthsText.f (k + 1) a0) := by
  intro a0 k
  unfold impl_LengthsText.f
  repeat' first
      | (with_reducible exact impl_AreLengths.mono _ _)
      | (with_reducible exact LeO.refl _)
      | (with_reducible exact LeO.none _)
      | (with_reducible refine LeO.ite ?_ ?_)
      | (with_reducible refine LeO.bind ?_ (fun _ => ?_))
      | exact impl_AreLengths.mono _ _
      | exact LeO.none _
      | refine LeO.ite ?_ ?_
      | refine LeO.bind ?_ (fun _ => ?_)
set_option maxHeartbeats 8000000 in
set_option maxRecDepth 100000 in
theorem impl_LengthsText.calls (k : Nat) (A0 : Option Addr) (c0 : Nat) (l0 : List Int) (r1 : ByteArray) (r2 : Bool) (w : World) (hr0 : Kd.C (Kd.int .i64) w A0 l0.length l0) (hc0 : l0.length ≤ c0) (h : impl_LengthsText.f k l0 = some (r1, r2)) :
    Calls Tryd.prog 21 #[.slice A0 l0.length c0] w fun e w' => e = .returned (.tuple #[.string r1, .bool r2]) ∧ Below w.heap.size w w' := by
  have HR0 := Aside0.mk hr0
  have HC0 := Aside0.mk hc0
  clear hr0 hc0
  have HB := Aside0.mk (Below.refl w.heap.size w)
  have H : ((impl_AreLengths.f k l0).bind fun t284 => (if t284 = true then ((impl_joined.f l0 (⟨#[44]⟩ : ByteArray)).bind fun t285 => (some (t285, true))) else (some ((⟨#[]⟩ : ByteArray), false)))) = some (r1, r2) := h
  clear h
  replace H := Option.bind_eq_some_iff.mp H
  obtain ⟨t284, A20, H⟩ := H
  replace H : (if t284 = true then ((impl_joined.f l0 (⟨#[44]⟩ : ByteArray)).bind fun t285 => (some (t285, true))) else (some ((⟨#[]⟩ : ByteArray), false))) = some (r1, r2) := H
  have A2 := Aside0.mk A20
  clear A20
  by_cases c3 : t284 = true
  · subst c3
    have H1 : ((impl_joined.f l0 (⟨#[44]⟩ : ByteArray)).bind fun t285 => (some (t285, true))) = some (r1, r2) := by rw [if_pos rfl] at H; exact H
    clear H
    have H := H1
    clear H1
    replace H := Option.bind_eq_some_iff.mp H
    obtain ⟨t285, A40, H⟩ := H
    replace H : (some (t285, true)) = some (r1, r2) := H
    have A4 := Aside0.mk A40
    clear A40
    simp only [Option.some.injEq, Prod.mk.injEq] at H
    obtain ⟨rfl, rfl⟩ := H
    go_enter Tryd.func21, Tryd.ntmps21
    go_wp2_with (first | ((with_reducible refine gate_callee (f := 50) rfl ?_); refine goesL_ (some 5) rfl rfl Tryd.func50 (by kernel_rfl) rfl #[.slice A0 l0.length c0] rfl (by (try simp only [List.map_toArray, List.map_cons, List.map_nil]); first | done | rfl | (simp only [List.length_drop, List.length_take]; rfl)) ?_; (with_reducible refine (impl_AreLengths.calls k _ _ l0 true _ ?side1 ?side2 A2.out).mono ?_); (case side1 => repeat (first | exact HR0.out | (with_reducible refine Kd.C_alloc ?_ _) | (with_reducible refine Kd.C_drewN ?_ _) | (with_reducible refine Kd.C_drew ?_))); (case side2 => exact HC0.out); rintro e w5 ⟨rfl, hb⟩; refine ⟨_, rfl, ?_⟩; have n0_ := Aside0.mk (below_step (by repeat (first | (with_reducible first | exact HB.out | apply below_alloc | apply pw_below_drewN | apply below_drew1) | exact HB.out)) hb); clear HB; have HB := n0_; clear n0_; (try clear hb); (try clear hb2); (try clear hk); (try clear hi)) | ((with_reducible refine gate_callee (f := 51) rfl ?_); refine goesL_ (some 8) rfl rfl Tryd.func51 (by kernel_rfl) rfl #[.slice A0 l0.length c0, .string (⟨#[44]⟩ : ByteArray)] rfl (by (try simp only [List.map_toArray, List.map_cons, List.map_nil]); first | done | rfl | (simp only [List.length_drop, List.length_take]; rfl)) ?_; (with_reducible refine (impl_joined.calls _ _ l0 (⟨#[44]⟩ : ByteArray) t285 _ ?side1 ?side2 A4.out).mono ?_); (case side1 => repeat (first | exact (Kd.C_below HR0.out HB.out) | (with_reducible refine Kd.C_alloc ?_ _) | (with_reducible refine Kd.C_drewN ?_ _) | (with_reducible refine Kd.C_drew ?_))); (case side2 => exact HC0.out); rintro e w6 ⟨rfl, hb⟩; refine ⟨_, rfl, ?_⟩; have n0_ := Aside0.mk (below_step (by repeat (first | (with_reducible first | exact HB.out | apply below_alloc | apply pw_below_drewN | apply below_drew1) | exact HB.out)) hb); clear HB; have HB := n0_; clear n0_; (try clear hb); (try clear hb2); (try clear hk); (try clear hi)))
    go_ret2
    exact ⟨by first | rfl | (simp [errW_none, errW_some] <;> rfl) | (simp [*, errW_none, errW_some] <;> rfl), by repeat (first | (with_reducible first | exact HB.out | apply below_alloc | apply pw_below_drewN | apply below_drew1) | exact HB.out)⟩
  · replace c3 := Bool.eq_false_iff.mpr c3
    subst c3
    have H1 : (some ((⟨#[]⟩ : ByteArray), false)) = some (r1, r2) := by rw [if_neg (show ¬ (false = true) by decide)] at H; exact H
    clear H
    have H := H1
    clear H1
    simp only [Option.some.injEq, Prod.mk.injEq] at H
    obtain ⟨rfl, rfl⟩ := H
    go_enter Tryd.func21, Tryd.ntmps21
    go_wp2_with (first | ((with_reducible refine gate_callee (f := 50) rfl ?_); refine goesL_ (some 5) rfl rfl Tryd.func50 (by kernel_rfl) rfl #[.slice A0 l0.length c0] rfl (by (try simp only [List.map_toArray, List.map_cons, List.map_nil]); first | done | rfl | (simp only [List.length_drop, List.length_take]; rfl)) ?_; (with_reducible refine (impl_AreLengths.calls k _ _ l0 false _ ?side1 ?side2 A2.out).mono ?_); (case side1 => repeat (first | exact HR0.out | (with_reducible refine Kd.C_alloc ?_ _) | (with_reducible refine Kd.C_drewN ?_ _) | (with_reducible refine Kd.C_drew ?_))); (case side2 => exact HC0.out); rintro e w7 ⟨rfl, hb⟩; refine ⟨_, rfl, ?_⟩; have n0_ := Aside0.mk (below_step (by repeat (first | (with_reducible first | exact HB.out | apply below_alloc | apply pw_below_drewN | apply below_drew1) | exact HB.out)) hb); clear HB; have HB := n0_; clear n0_; (try clear hb); (try clear hb2); (try clear hk); (try clear hi)))
    go_ret2
    exact ⟨by first | rfl | (simp [errW_none, errW_some] <;> rfl) | (simp [*, errW_none, errW_some] <;> rfl), by repeat (first | (with_reducible first | exact HB.out | apply below_alloc | apply pw_below_drewN | apply below_drew1) | exact HB.out)⟩

end Go.Proofs.YtbpjgbiclpkdnaaDoor.Q

namespace Go.Proofs.YtbpjgbiclpkdnaaDoor.Q
open Go.RowKit Go.Proofs.YtbpjgbiclpkdnaaDoorW.PrintWords Go.Proofs.YtbpjgbiclpkdnaaDoorW.PrintLast Go.Proofs.YtbpjgbiclpkdnaaDoorW.PrintMore
attribute [local go_sem] max2_int min2_int max_two min_two max_three min_three max_four min_four   -- for this text's walks alone
set_option linter.unusedVariables false
set_option linter.unusedSimpArgs false

/-! ### laws_FnExactLengthsText: function 5 -/
def laws_FnExactLengthsText.j0 : Nat → List Int → List Int → Bool → Option (Bool)
  | 0, _, _, _ => none
  | k + 1, x0, x5, x31 => if x31 = true then (some false) else ((laws_toIntS.f k x0).bind fun t298 => ((laws_eqIntS.f k x5 t298).bind fun t301 => (if t301 = true then (some true) else (some false))))
def laws_FnExactLengthsText.f (k : Nat) (l0 : List Int) : Option (Bool) := if (l0.length : Int) > 1048576 then (some true) else ((laws_toIntS.f k l0).bind fun t288 => ((spec_LengthsText.f k t288).bind fun bt291 => ((laws_toIntS.f k l0).bind fun t293 => ((impl_LengthsText.f k t293).bind fun bt296 => (if bt296.1.toList = bt291.1.toList then (laws_FnExactLengthsText.j0 k l0 t293 (bt296.2 != bt291.2)) else (laws_FnExactLengthsText.j0 k l0 t293 true))))))
theorem laws_FnExactLengthsText.mono_l : ∀ k, (∀ y0 y1 y2, LeO (laws_FnExactLengthsText.j0 k y0 y1 y2) (laws_FnExactLengthsText.j0 (k + 1) y0 y1 y2))
  | 0 => fun _ _ _ r h => by simp [laws_FnExactLengthsText.j0] at h
  | k + 1 => by
    have ih0 := laws_FnExactLengthsText.mono_l k
    · intro y0 y1 y2
      unfold laws_FnExactLengthsText.j0
      repeat' first
      | (with_reducible exact ih0 _ _ _)
      | (with_reducible exact impl_LengthsText.mono _ _)
      | (with_reducible exact laws_eqIntS.mono _ _ _)
      | (with_reducible exact laws_toIntS.mono _ _)
      | (with_reducible exact spec_LengthsText.mono _ _)
      | (with_reducible exact LeO.refl _)
      | (with_reducible exact LeO.none _)
      | (with_reducible refine LeO.ite ?_ ?_)
      | (with_reducible refine LeO.bind ?_ (fun _ => ?_))
      | exact ih0 _ _ _
      | exact impl_LengthsText.mono _ _
      | exact laws_eqIntS.mono _ _ _
      | exact laws_toIntS.mono _ _
      | exact spec_LengthsText.mono _ _
      | exact LeO.none _
      | refine LeO.ite ?_ ?_
      | refine LeO.bind ?_ (fun _ => ?_)
theorem laws_FnExactLengthsText.mono : ∀ a0 k, LeO (laws_FnExactLengthsText.f k a0) (laws_FnExactLengthsText.f (k + 1) a0) := by
  intro a0 k
  have ih0 := laws_FnExactLengthsText.mono_l k
  unfold laws_FnExactLengthsText.f
  repeat' first
      | (with_reducible exact ih0 _ _ _)
      | (with_reducible exact impl_LengthsText.mono _ _)
      | (with_reducible exact laws_eqIntS.mono _ _ _)
      | (with_reducible exact laws_toIntS.mono _ _)
      | (with_reducible exact spec_LengthsText.mono _ _)
      | (with_reducible exact LeO.refl _)
      | (with_reducible exact LeO.none _)
      | (with_reducible refine LeO.ite ?_ ?_)
      | (with_reducible refine LeO.bind ?_ (fun _ => ?_))
      | exact ih0 _ _ _
      | exact impl_LengthsText.mono _ _
      | exact laws_eqIntS.mono _ _ _
      | exact laws_toIntS.mono _ _
      | exact spec_LengthsText.mono _ _
      | exact LeO.none _
      | refine LeO.ite ?_ ?_
      | refine LeO.bind ?_ (fun _ => ?_)
set_option maxHeartbeats 8000000 in
set_option maxRecDepth 100000 in
theorem laws_FnExactLengthsText.calls (k : Nat) (A0 : Option Addr) (c0 : Nat) (l0 : List Int) (r : Bool) (w : World) (hr0 : Kd.C (Kd.int .i64) w A0 l0.length l0) (hc0 : l0.length ≤ c0) (h : laws_FnExactLengthsText.f k l0 = some r) :
    Calls Tryd.prog 5 #[.slice A0 l0.length c0] w fun e w' => e = .returned (.bool r) ∧ Below w.heap.size w w' := by
  have HR0 := Aside0.mk hr0
  have HC0 := Aside0.mk hc0
  clear hr0 hc0
  have HB := Aside0.mk (Below.refl w.heap.size w)
  have H : (if (l0.length : Int) > 1048576 then (some true) else ((laws_toIntS.f k l0).bind fun t288 => ((spec_LengthsText.f k t288).bind fun bt291 => ((laws_toIntS.f k l0).bind fun t293 => ((impl_LengthsText.f k t293).bind fun bt296 => (if bt296.1.toList = bt291.1.toList then (laws_FnExactLengthsText.j0 k l0 t293 (bt296.2 != bt291.2)) else (laws_FnExactLengthsText.j0 k l0 t293 true))))))) = some r := h
  clear h
  by_cases c2 : (l0.length : Int) > 1048576
  · rw [if_pos c2] at H
    have c2b0 : decide (1048576 < (l0.length : Int)) = true := decide_eq_true c2
    have c2b1 : decide (1048576 < l0.length) = true := decide_eq_true (by omega)
    clear c2
    obtain rfl := Option.some.inj H
    go_enter Tryd.func5, Tryd.ntmps5
    go_wp2
    go_ret
    exact ⟨by first | rfl | (simp [errW_none, errW_some] <;> rfl) | (simp [*, errW_none, errW_some] <;> rfl), by repeat (first | (with_reducible first | exact HB.out | apply below_alloc | apply pw_below_drewN | apply below_drew1) | exact HB.out)⟩
  · rw [if_neg c2] at H
    have c2b0 : decide (1048576 < (l0.length : Int)) = false := decide_eq_false c2
    have c2b1 : decide (1048576 < l0.length) = false := decide_eq_false (by omega)
    clear c2
    replace H := Option.bind_eq_some_iff.mp H
    obtain ⟨t288, A30, H⟩ := H
    replace H : ((spec_LengthsText.f k t288).bind fun bt291 => ((laws_toIntS.f k l0).bind fun t293 => ((impl_LengthsText.f k t293).bind fun bt296 => (if bt296.1.toList = bt291.1.toList then (laws_FnExactLengthsText.j0 k l0 t293 (bt296.2 != bt291.2)) else (laws_FnExactLengthsText.j0 k l0 t293 true))))) = some r := H
    have A3 := Aside0.mk A30
    clear A30
    replace H := Option.bind_eq_some_iff.mp H
    obtain ⟨⟨t291, t292⟩, A40, H⟩ := H
    replace H : ((laws_toIntS.f k l0).bind fun t293 => ((impl_LengthsText.f k t293).bind fun bt296 => (if bt296.1.toList = t291.toList then (laws_FnExactLengthsText.j0 k l0 t293 (bt296.2 != t292)) else (laws_FnExactLengthsText.j0 k l0 t293 true)))) = some r := H
    have A4 := Aside0.mk A40
    clear A40
    replace H := Option.bind_eq_some_iff.mp H
    obtain ⟨t293, A50, H⟩ := H
    replace H : ((impl_LengthsText.f k t293).bind fun bt296 => (if bt296.1.toList = t291.toList then (laws_FnExactLengthsText.j0 k l0 t293 (bt296.2 != t292)) else (laws_FnExactLengthsText.j0 k l0 t293 true))) = some r := H
    have A5 := Aside0.mk A50
    clear A50
    replace H := Option.bind_eq_some_iff.mp H
    obtain ⟨⟨t296, t297⟩, A60, H⟩ := H
    replace H : (if t296.toList = t291.toList then (laws_FnExactLengthsText.j0 k l0 t293 (t297 != t292)) else (laws_FnExactLengthsText.j0 k l0 t293 true)) = some r := H
    have A6 := Aside0.mk A60
    clear A60
    have HC7 := Aside0.mk H
    clear H
    go_enter Tryd.func5, Tryd.ntmps5
    go_upto_region 6 with (first | ((with_reducible refine gate_callee (f := 20) rfl ?_); refine goesL_ (some 13) rfl rfl Tryd.func20 (by kernel_rfl) rfl #[.slice A0 l0.length c0] rfl (by (try simp only [List.map_toArray, List.map_cons, List.map_nil]); first | done | rfl | (simp only [List.length_drop, List.length_take]; rfl)) ?_; (with_reducible refine (laws_toIntS.calls k _ _ l0 t288 _ ?side1 ?side2 A3.out).mono ?_); (case side1 => repeat (first | exact HR0.out | (with_reducible refine Kd.C_alloc ?_ _) | (with_reducible refine Kd.C_drewN ?_ _) | (with_reducible refine Kd.C_drew ?_))); (case side2 => exact HC0.out); rintro e w8 ⟨v289, rfl, ho0, hb⟩; refine ⟨_, rfl, ?_⟩; have n0_ := Aside0.mk (Kd.R_lower ho0 (below_size (by repeat (first | (with_reducible first | exact HB.out | apply below_alloc | apply pw_below_drewN | apply below_drew1) | exact HB.out)))); have n1_ := Aside0.mk (below_step (by repeat (first | (with_reducible first | exact HB.out | apply below_alloc | apply pw_below_drewN | apply below_drew1) | exact HB.out)) hb); clear HB; have HO290 := n0_; have HB := n1_; clear n0_ n1_; (try clear hb); (try clear hb2); (try clear hk); (try clear hi); (try clear ho0); obtain ⟨Ao9, co9, eo9⟩ := Kd.R_slice HO290.out; subst eo9) | ((with_reducible refine gate_callee (f := 19) rfl ?_); refine goesL_ (some 14) rfl rfl Tryd.func19 (by kernel_rfl) rfl #[.slice Ao9 t288.length co9] rfl (by (try simp only [List.map_toArray, List.map_cons, List.map_nil]); first | done | rfl | (simp only [List.length_drop, List.length_take]; rfl)) ?_; (with_reducible refine (spec_LengthsText.calls k _ _ t288 t291 t292 _ ?side1 ?side2 A4.out).mono ?_); (case side1 => repeat (first | exact (Kd.R_reads' HO290.out).2.2 | (with_reducible refine Kd.C_alloc ?_ _) | (with_reducible refine Kd.C_drewN ?_ _) | (with_reducible refine Kd.C_drew ?_))); (case side2 => exact (Kd.R_reads' HO290.out).2.1); rintro e w10 ⟨rfl, hb⟩; refine ⟨_, rfl, ?_⟩; have n0_ := Aside0.mk (Kd.R_below (by (with_reducible repeat (first | apply Kd.R_alloc | apply Kd.R_drewN | apply Kd.R_drew)); exact HO290.out) hb); have n1_ := Aside0.mk (below_step (by repeat (first | (with_reducible first | exact HB.out | apply below_alloc | apply pw_below_drewN | apply below_drew1) | exact HB.out)) hb); clear HO290; clear HB; have HO290 := n0_; have HB := n1_; clear n0_ n1_; (try clear hb); (try clear hb2); (try clear hk); (try clear hi)) | ((with_reducible refine gate_callee (f := 20) rfl ?_); refine goesL_ (some 18) rfl rfl Tryd.func20 (by kernel_rfl) rfl #[.slice A0 l0.length c0] rfl (by (try simp only [List.map_toArray, List.map_cons, List.map_nil]); first | done | rfl | (simp only [List.length_drop, List.length_take]; rfl)) ?_; (with_reducible refine (laws_toIntS.calls k _ _ l0 t293 _ ?side1 ?side2 A5.out).mono ?_); (case side1 => repeat (first | exact (Kd.C_below HR0.out HB.out) | (with_reducible refine Kd.C_alloc ?_ _) | (with_reducible refine Kd.C_drewN ?_ _) | (with_reducible refine Kd.C_drew ?_))); (case side2 => exact HC0.out); rintro e w11 ⟨v294, rfl, ho0, hb⟩; refine ⟨_, rfl, ?_⟩; have n0_ := Aside0.mk (Kd.R_elder' (by (with_reducible repeat (first | apply Kd.R_alloc | apply Kd.R_drewN | apply Kd.R_drew)); exact HO290.out) (Kd.R_base ho0) hb); have n1_ := Aside0.mk (Kd.R_lower (Kd.R_new' ho0 (Kd.R_lt (by (with_reducible repeat (first | apply Kd.R_alloc | apply Kd.R_drewN | apply Kd.R_drew)); exact HO290.out))) (below_size (by repeat (first | (with_reducible first | exact HB.out | apply below_alloc | apply pw_below_drewN | apply below_drew1) | exact HB.out)))); have n2_ := Aside0.mk (below_step (by repeat (first | (with_reducible first | exact HB.out | apply below_alloc | apply pw_below_drewN | apply below_drew1) | exact HB.out)) hb); clear HO290; clear HB; have HO290 := n0_; have HO295 := n1_; have HB := n2_; clear n0_ n1_ n2_; (try clear hb); (try clear hb2); (try clear hk); (try clear hi); (try clear ho0); obtain ⟨Ao12, co12, eo12⟩ := Kd.R_slice HO295.out; subst eo12) | ((with_reducible refine gate_callee (f := 21) rfl ?_); refine goesL_ (some 21) rfl rfl Tryd.func21 (by kernel_rfl) rfl #[.slice Ao12 t293.length co12] rfl (by (try simp only [List.map_toArray, List.map_cons, List.map_nil]); first | done | rfl | (simp only [List.length_drop, List.length_take]; rfl)) ?_; (with_reducible refine (impl_LengthsText.calls k _ _ t293 t296 t297 _ ?side1 ?side2 A6.out).mono ?_); (case side1 => repeat (first | exact (Kd.R_reads' HO295.out).2.2 | (with_reducible refine Kd.C_alloc ?_ _) | (with_reducible refine Kd.C_drewN ?_ _) | (with_reducible refine Kd.C_drew ?_))); (case side2 => exact (Kd.R_reads' HO295.out).2.1); rintro e w13 ⟨rfl, hb⟩; refine ⟨_, rfl, ?_⟩; have n0_ := Aside0.mk (Kd.R_below (by (with_reducible repeat (first | apply Kd.R_alloc | apply Kd.R_drewN | apply Kd.R_drew)); exact HO290.out) hb); have n1_ := Aside0.mk (Kd.R_below (by (with_reducible repeat (first | apply Kd.R_alloc | apply Kd.R_drewN | apply Kd.R_drew)); exact HO295.out) hb); have n2_ := Aside0.mk (below_step (by repeat (first | (with_reducible first | exact HB.out | apply below_alloc | apply pw_below_drewN | apply below_drew1) | exact HB.out)) hb); clear HO290; clear HO295; clear HB; have HO290 := n0_; have HO295 := n1_; have HB := n2_; clear n0_ n1_ n2_; (try clear hb); (try clear hb2); (try clear hk); (try clear hi)))
    (try simp only [Act.put, List.setIfInBounds_toArray, List.set_cons_zero, List.set_cons_succ])
    go_cut [31] (fun v31 wc => ∃ (kq : Nat) (x31_6 : Bool), v31 = .bool x31_6 ∧ Aside0 (laws_FnExactLengthsText.j0 kq l0 t293 x31_6 = some r) ∧ Aside0 (kq ≤ k) ∧ Aside0 (Kd.R (Kd.int .i64) 3 wc w.heap.size (fun _ => True) (.slice Ao12 t293.length co12) t293) ∧ Aside0 (Below w.heap.size w wc))
    case first =>
      have H := HC7.out
      clear HC7
      by_cases c14 : t296.toList = t291.toList
      · rw [if_pos c14] at H
        have c14b0 : (t296.toList == t291.toList) = true := beq_iff_eq.mpr c14
        have c14b1 : (t296.toList != t291.toList) = false := bne_eq_false_iff_eq.mpr c14
        clear c14
        (first | rw [c14b0] | (simp only [i64_w, i32_w]; rw [c14b0]) | skip)
        have H' := Aside0.mk H
        clear H
        go_wp2
        go_meet
        case rel => exact ⟨_, ((t297 != t292)), (by first | rfl | (simp; done) | (simp [*]; done)), H', ⟨by first | omega | exact Nat.le_refl _⟩, ⟨by (with_reducible repeat (first | apply Kd.R_alloc | apply Kd.R_drewN | apply Kd.R_drew)); exact Kd.R_mono HO295.out (fun _ hk => trivial)⟩, ⟨by repeat (first | (with_reducible first | exact HB.out | apply below_alloc | apply pw_below_drewN | apply below_drew1) | exact HB.out)⟩⟩
      · rw [if_neg c14] at H
        have c14b0 : (t296.toList == t291.toList) = false := beq_eq_false_iff_ne.mpr c14
        have c14b1 : (t296.toList != t291.toList) = true := bne_iff_ne.mpr c14
        (first | rw [c14b0] | (simp only [i64_w, i32_w]; rw [c14b0]) | skip)
        have H' := Aside0.mk H
        clear H
        go_wp2
        go_meet
        case rel => exact ⟨_, (true), (by first | rfl | (simp; done) | (simp [*]; done)), H', ⟨by first | omega | exact Nat.le_refl _⟩, ⟨by (with_reducible repeat (first | apply Kd.R_alloc | apply Kd.R_drewN | apply Kd.R_drew)); exact Kd.R_mono HO295.out (fun _ hk => trivial)⟩, ⟨by repeat (first | (with_reducible first | exact HB.out | apply below_alloc | apply pw_below_drewN | apply below_drew1) | exact HB.out)⟩⟩
    case rest =>
      clear HC7
      try clear c1
      try clear c2
      try clear c2b0
      try clear c2b1
      try clear p2
      try clear c5
      try clear c14
      try clear c14b0
      try clear c14b1
      obtain ⟨kq, x31_6, rfl, HA, HJ6, HO_5, HB⟩ := hcut
      cases kq with
      | zero => exact absurd HA.out (by simp [laws_FnExactLengthsText.j0])
      | succ kj6 =>
        have H := HA.out
        clear HA
        simp only [laws_FnExactLengthsText.j0] at H
        by_cases c15 : x31_6 = true
        · subst c15
          have H1 : (some false) = some r := by rw [if_pos rfl] at H; exact H
          clear H
          have H := H1
          clear H1
          obtain rfl := Option.some.inj H
          go_wp2
          go_ret
          exact ⟨by first | rfl | (simp [errW_none, errW_some] <;> rfl) | (simp [*, errW_none, errW_some] <;> rfl), by repeat (first | (with_reducible first | exact HB.out | apply below_alloc | apply pw_below_drewN | apply below_drew1) | exact HB.out)⟩
        · replace c15 := Bool.eq_false_iff.mpr c15
          subst c15
          have H1 : ((laws_toIntS.f kj6 l0).bind fun t298 => ((laws_eqIntS.f kj6 t293 t298).bind fun t301 => (if t301 = true then (some true) else (some false)))) = some r := by rw [if_neg (show ¬ (false = true) by decide)] at H; exact H
          clear H
          have H := H1
          clear H1
          replace H := Option.bind_eq_some_iff.mp H
          obtain ⟨t298, A160, H⟩ := H
          replace H : ((laws_eqIntS.f kj6 t293 t298).bind fun t301 => (if t301 = true then (some true) else (some false))) = some r := H
          have A16 := Aside0.mk A160
          clear A160
          replace H := Option.bind_eq_some_iff.mp H
          obtain ⟨t301, A170, H⟩ := H
          replace H : (if t301 = true then (some true) else (some false)) = some r := H
          have A17 := Aside0.mk A170
          clear A170
          by_cases c18 : t301 = true
          · subst c18
            have H1 : (some true) = some r := by rw [if_pos rfl] at H; exact H
            clear H
            have H := H1
            clear H1
            obtain rfl := Option.some.inj H
            go_wp2_with (first | ((with_reducible refine gate_callee (f := 20) rfl ?_); refine goesL_ (some 34) rfl rfl Tryd.func20 (by kernel_rfl) rfl #[.slice A0 l0.length c0] rfl (by (try simp only [List.map_toArray, List.map_cons, List.map_nil]); first | done | rfl | (simp only [List.length_drop, List.length_take]; rfl)) ?_; (with_reducible refine (laws_toIntS.calls kj6 _ _ l0 t298 _ ?side1 ?side2 A16.out).mono ?_); (case side1 => repeat (first | exact (Kd.C_below HR0.out HB.out) | (with_reducible refine Kd.C_alloc ?_ _) | (with_reducible refine Kd.C_drewN ?_ _) | (with_reducible refine Kd.C_drew ?_))); (case side2 => exact HC0.out); rintro e w19 ⟨v299, rfl, ho0, hb⟩; refine ⟨_, rfl, ?_⟩; have n0_ := Aside0.mk (Kd.R_elder' (by (with_reducible repeat (first | apply Kd.R_alloc | apply Kd.R_drewN | apply Kd.R_drew)); exact HO_5.out) (Kd.R_base ho0) hb); have n1_ := Aside0.mk (Kd.R_lower (Kd.R_new' ho0 (Kd.R_lt (by (with_reducible repeat (first | apply Kd.R_alloc | apply Kd.R_drewN | apply Kd.R_drew)); exact HO_5.out))) (below_size (by repeat (first | (with_reducible first | exact HB.out | apply below_alloc | apply pw_below_drewN | apply below_drew1) | exact HB.out)))); have n2_ := Aside0.mk (below_step (by repeat (first | (with_reducible first | exact HB.out | apply below_alloc | apply pw_below_drewN | apply below_drew1) | exact HB.out)) hb); clear HO_5; clear HB; have HO_5 := n0_; have HO300 := n1_; have HB := n2_; clear n0_ n1_ n2_; (try clear hb); (try clear hb2); (try clear hk); (try clear hi); (try clear ho0); obtain ⟨Ao20, co20, eo20⟩ := Kd.R_slice HO300.out; subst eo20) | ((with_reducible refine gate_callee (f := 22) rfl ?_); refine goesL_ (some 35) rfl rfl Tryd.func22 (by kernel_rfl) rfl #[.slice Ao12 t293.length co12, .slice Ao20 t298.length co20] rfl (by (try simp only [List.map_toArray, List.map_cons, List.map_nil]); first | done | rfl | (simp only [List.length_drop, List.length_take]; rfl)) ?_; (with_reducible refine (laws_eqIntS.calls kj6 _ _ t293 _ _ t298 true _ ?side1 ?side2 ?side3 ?side4 A17.out).mono ?_); (case side1 => repeat (first | exact (Kd.R_reads' HO_5.out).2.2 | (with_reducible refine Kd.C_alloc ?_ _) | (with_reducible refine Kd.C_drewN ?_ _) | (with_reducible refine Kd.C_drew ?_))); (case side2 => exact (Kd.R_reads' HO_5.out).2.1); (case side3 => repeat (first | exact (Kd.R_reads' HO300.out).2.2 | (with_reducible refine Kd.C_alloc ?_ _) | (with_reducible refine Kd.C_drewN ?_ _) | (with_reducible refine Kd.C_drew ?_))); (case side4 => exact (Kd.R_reads' HO300.out).2.1); rintro e w' ⟨rfl, ⟨nd, rfl⟩⟩; refine ⟨_, rfl, ?_⟩))
            go_ret
            exact ⟨by first | rfl | (simp [errW_none, errW_some] <;> rfl) | (simp [*, errW_none, errW_some] <;> rfl), by repeat (first | (with_reducible first | exact HB.out | apply below_alloc | apply pw_below_drewN | apply below_drew1) | exact HB.out)⟩
          · replace c18 := Bool.eq_false_iff.mpr c18
            subst c18
            have H1 : (some false) = some r := by rw [if_neg (show ¬ (false = true) by decide)] at H; exact H
            clear H
            have H := H1
            clear H1
            obtain rfl := Option.some.inj H
            go_wp2_with (first | ((with_reducible refine gate_callee (f := 20) rfl ?_); refine goesL_ (some 34) rfl rfl Tryd.func20 (by kernel_rfl) rfl #[.slice A0 l0.length c0] rfl (by (try simp only [List.map_toArray, List.map_cons, List.map_nil]); first | done | rfl | (simp only [List.length_drop, List.length_take]; rfl)) ?_; (with_reducible refine (laws_toIntS.calls kj6 _ _ l0 t298 _ ?side1 ?side2 A16.out).mono ?_); (case side1 => repeat (first | exact (Kd.C_below HR0.out HB.out) | (with_reducible refine Kd.C_alloc ?_ _) | (with_reducible refine Kd.C_drewN ?_ _) | (with_reducible refine Kd.C_drew ?_))); (case side2 => exact HC0.out); rintro e w21 ⟨v299, rfl, ho0, hb⟩; refine ⟨_, rfl, ?_⟩; have n0_ := Aside0.mk (Kd.R_elder' (by (with_reducible repeat (first | apply Kd.R_alloc | apply Kd.R_drewN | apply Kd.R_drew)); exact HO_5.out) (Kd.R_base ho0) hb); have n1_ := Aside0.mk (Kd.R_lower (Kd.R_new' ho0 (Kd.R_lt (by (with_reducible repeat (first | apply Kd.R_alloc | apply Kd.R_drewN | apply Kd.R_drew)); exact HO_5.out))) (below_size (by repeat (first | (with_reducible first | exact HB.out | apply below_alloc | apply pw_below_drewN | apply below_drew1) | exact HB.out)))); have n2_ := Aside0.mk (below_step (by repeat (first | (with_reducible first | exact HB.out | apply below_alloc | apply pw_below_drewN | apply below_drew1) | exact HB.out)) hb); clear HO_5; clear HB; have HO_5 := n0_; have HO300 := n1_; have HB := n2_; clear n0_ n1_ n2_; (try clear hb); (try clear hb2); (try clear hk); (try clear hi); (try clear ho0); obtain ⟨Ao22, co22, eo22⟩ := Kd.R_slice HO300.out; subst eo22) | ((with_reducible refine gate_callee (f := 22) rfl ?_); refine goesL_ (some 35) rfl rfl Tryd.func22 (by kernel_rfl) rfl #[.slice Ao12 t293.length co12, .slice Ao22 t298.length co22] rfl (by (try simp only [List.map_toArray, List.map_cons, List.map_nil]); first | done | rfl | (simp only [List.length_drop, List.length_take]; rfl)) ?_; (with_reducible refine (laws_eqIntS.calls kj6 _ _ t293 _ _ t298 false _ ?side1 ?side2 ?side3 ?side4 A17.out).mono ?_); (case side1 => repeat (first | exact (Kd.R_reads' HO_5.out).2.2 | (with_reducible refine Kd.C_alloc ?_ _) | (with_reducible refine Kd.C_drewN ?_ _) | (with_reducible refine Kd.C_drew ?_))); (case side2 => exact (Kd.R_reads' HO_5.out).2.1); (case side3 => repeat (first | exact (Kd.R_reads' HO300.out).2.2 | (with_reducible refine Kd.C_alloc ?_ _) | (with_reducible refine Kd.C_drewN ?_ _) | (with_reducible refine Kd.C_drew ?_))); (case side4 => exact (Kd.R_reads' HO300.out).2.1); rintro e w' ⟨rfl, ⟨nd, rfl⟩⟩; refine ⟨_, rfl, ?_⟩))
            go_ret
            exact ⟨by first | rfl | (simp [errW_none, errW_some] <;> rfl) | (simp [*, errW_none, errW_some] <;> rfl), by repeat (first | (with_reducible first | exact HB.out | apply below_alloc | apply pw_below_drewN | apply below_drew1) | exact HB.out)⟩

/-- THE ONE PURE STATEMENT of laws_FnExactLengthsText: yours. -/
def laws_FnExactLengthsText.Pure : Prop := ∀ (l0 : List Int), l0.length ≤ maxLen → l0.length * 8 ≤ 140737488351232 → (∀ x ∈ l0, (Lit.int .i64 x).wf = true) → ∃ k, laws_FnExactLengthsText.f k l0 = some true
theorem laws_FnExactLengthsText.walk (P : laws_FnExactLengthsText.Pure) (a0 : Option Addr) (len0 cap0 : Nat) (z0 : List Int) (w : World) (w0 : (a0 = none ∧ len0 = 0 ∧ cap0 = 0 ∧ z0 = []) ∨ ∃ x, a0 = some x ∧ len0 ≤ cap0 ∧ cap0 ≤ maxLen ∧ z0.length = cap0 ∧ (∀ i, i < z0.length → w.cell? (x.add i) = some (.int .i64 (z0.getD i 0))) ∧ ∀ n ∈ z0, (Lit.int .i64 n).wf = true) (y0 : len0 * 8 ≤ 140737488351232) :
    Calls Tryd.prog 5 #[.slice a0 len0 cap0] w fun e w' => e = .returned (.bool true) ∧ Below w.heap.size w w' := by
  obtain ⟨l0, rfl, hr0, hm0, hw0, hc0⟩ := ReadsInt.ofRowC w0
  obtain ⟨k, h⟩ := P l0 hm0 y0 hw0
  refine (laws_FnExactLengthsText.calls k _ _ l0 true w (Kd.C_of_reads (d := (0 : Int)) (h1 := fun _ => rfl) hr0) hc0 h).mono ?_
  rintro e w' ⟨rfl, hd⟩
  exact ⟨rfl, hd⟩

end Go.Proofs.YtbpjgbiclpkdnaaDoor.Q

namespace Go.Proofs.YtbpjgbiclpkdnaaDoor.Q
open Go.RowKit Go.Proofs.YtbpjgbiclpkdnaaDoorW.PrintWords Go.Proofs.YtbpjgbiclpkdnaaDoorW.PrintLast Go.Proofs.YtbpjgbiclpkdnaaDoorW.PrintMore
set_option linter.unusedVariables false
set_option linter.unusedSimpArgs false

theorem in_eq (n lo hi : Int) : spec_l1In.f n lo hi = some (decide (lo ≤ n) && decide (n ≤ hi)) := by
  unfold spec_l1In.f
  by_cases h : lo ≤ n <;> simp [h]
/-- Each of d numbers from place i on is greater than the one before. -/
def incB (l : List Int) : Nat → Nat → Bool
  | 0, _ => true
  | d + 1, i => decide (rd l ((i : Int) - 1) < rd l (i : Int)) && incB l d (i + 1)
def okR (l : List Int) : Bool := l.all fun n => decide (1 ≤ n) && decide (n ≤ 60)
def lengthsB (l : List Int) : Bool := (decide (1 ≤ (l.length : Int)) && decide ((l.length : Int) ≤ 4)) && (okR l && incB l (l.length - 1) 1)
theorem areLengths_l0 (l : List Int) (hn : l.length ≤ 1000000000) : ∀ d k i, i + d = l.length → 1 ≤ i → d < k → impl_AreLengths.l0 k l (i : Int) = some (incB l d i && ((decide (1 ≤ (l.length : Int)) && decide ((l.length : Int) ≤ 4)) && okR l)) := by
  intro d
  induction d with
  | zero =>
    intro k i hi h1 hk
    obtain ⟨k, rfl⟩ : ∃ m, k = m + 1 := ⟨k - 1, by omega⟩
    rw [impl_AreLengths.l0, if_neg (by omega)]
    unfold impl_within.f impl_areWithin.f okR incB
    by_cases h : (1 : Int) ≤ (l.length : Int)
    · rw [if_pos h, Option.bind_some, decide_eq_true h, Bool.true_and, Bool.true_and]
      cases decide ((l.length : Int) ≤ 4) <;> rfl
    · rw [if_neg h, Option.bind_some, decide_eq_false h]; rfl
  | succ d ih =>
    intro k i hi h1 hk
    obtain ⟨k, rfl⟩ : ∃ m, k = m + 1 := ⟨k - 1, by omega⟩
    rw [impl_AreLengths.l0, if_pos (by omega), if_pos (by omega), w64 (i := (i : Int) - 1) (by omega) (by omega), if_pos (by omega), if_pos (by omega), w64 (i := (i : Int) + 1) (by omega) (by omega), show (i : Int) + 1 = ((i + 1 : Nat) : Int) by omega, incB]
    by_cases h : rd l (i : Int) ≤ rd l ((i : Int) - 1)
    · rw [if_pos h, decide_eq_false (by omega)]; rfl
    · rw [if_neg h, decide_eq_true (by omega), Bool.true_and, ih k (i + 1) (by omega) (by omega) (by omega)]
theorem rising_l0 (l : List Int) (hn : l.length ≤ 1000000000) : ∀ d k i, i + d = l.length → 1 ≤ i → d < k → spec_l1Rising.l0 k l 1 60 l (l.length : Int) (i : Int) = some (okR (l.drop i) && incB l d i) := by
  intro d
  induction d with
  | zero =>
    intro k i hi h1 hk
    obtain ⟨k, rfl⟩ : ∃ m, k = m + 1 := ⟨k - 1, by omega⟩
    rw [spec_l1Rising.l0, if_neg (by omega), List.drop_of_length_le (by omega)]; rfl
  | succ d ih =>
    intro k i hi h1 hk
    obtain ⟨k, rfl⟩ : ∃ m, k = m + 1 := ⟨k - 1, by omega⟩
    have hlt : i < l.length := by omega
    rw [spec_l1Rising.l0, if_pos (by omega), if_pos (by omega), if_pos (by omega), in_eq, Option.bind_some, List.drop_eq_getElem_cons hlt]
    unfold okR
    rw [List.all_cons, incB, ← rd_nat l i hlt]
    by_cases hc : (decide (1 ≤ rd l (i : Int)) && decide (rd l (i : Int) ≤ 60)) = true
    · rw [hc, if_pos rfl, if_pos (by omega), w64 (i := (i : Int) - 1) (by omega) (by omega), if_pos (by omega), if_pos (by omega), w64 (i := (i : Int) + 1) (by omega) (by omega), show (i : Int) + 1 = ((i + 1 : Nat) : Int) by omega, Bool.true_and]
      by_cases h : rd l ((i : Int) - 1) ≥ rd l (i : Int)
      · rw [if_pos h, decide_eq_false (by omega), Bool.false_and, Bool.and_false]
      · rw [if_neg h, decide_eq_true (by omega), Bool.true_and]
        exact ih k (i + 1) (by omega) (by omega) (by omega)
    · have hcf : (decide (1 ≤ rd l (i : Int)) && decide (rd l (i : Int) ≤ 60)) = false := by simpa using hc
      rw [hcf, if_neg (by decide), Bool.false_and, Bool.false_and]
theorem areLengths_eq (l : List Int) (hn : l.length ≤ 1000000000) (k : Nat) (hk : l.length < k) : impl_AreLengths.f k l = some (lengthsB l) := by
  unfold impl_AreLengths.f lengthsB
  cases hl : l with
  | nil =>
    obtain ⟨k, rfl⟩ : ∃ m, k = m + 1 := ⟨k - 1, by omega⟩
    rfl
  | cons x xs =>
    rw [← hl]
    have h1 : 1 ≤ l.length := by rw [hl]; simp
    have := areLengths_l0 l hn (l.length - 1) k 1 (by omega) (by omega) (by omega)
    rw [Int.natCast_one] at this
    rw [this]
    cases okR l <;> cases incB l (l.length - 1) 1 <;> cases (decide (1 ≤ (l.length : Int)) && decide ((l.length : Int) ≤ 4)) <;> rfl
theorem rdLengths_eq (l : List Int) (hn : l.length ≤ 1000000000) (k : Nat) (hk : l.length + 1 < k) : spec_rdLengths.f k l = some (lengthsB l) := by
  unfold spec_rdLengths.f lengthsB
  rw [in_eq, Option.bind_some]
  cases hc : (decide (1 ≤ (l.length : Int)) && decide ((l.length : Int) ≤ 4)) with
  | false => rw [if_neg (by decide), Bool.false_and]
  | true =>
    have h1 : 1 ≤ l.length := by simp only [Bool.and_eq_true, decide_eq_true_eq] at hc; omega
    obtain ⟨k, rfl⟩ : ∃ m, k = m + 1 := ⟨k - 1, by omega⟩
    rw [if_pos rfl, Bool.true_and]
    unfold spec_l1Rising.f
    have hlt : 0 < l.length := h1
    have hr := rising_l0 l hn (l.length - 1) k 1 (by omega) (by omega) (by omega)
    rw [Int.natCast_one] at hr
    rw [spec_l1Rising.l0, if_pos (by omega), if_pos (by omega), if_pos (by omega), in_eq, Option.bind_some]
    have hd : okR l = ((decide (1 ≤ rd l 0) && decide (rd l 0 ≤ 60)) && okR (l.drop 1)) := by
      have h0 := rd_nat l 0 hlt
      rw [Int.natCast_zero] at h0
      rw [h0]
      unfold okR
      rw [show l.all (fun n => decide (1 ≤ n) && decide (n ≤ 60)) = (l.drop 0).all (fun n => decide (1 ≤ n) && decide (n ≤ 60)) by rw [List.drop_zero], List.drop_eq_getElem_cons hlt, List.all_cons]
    rw [hd]
    cases (decide (1 ≤ rd l 0) && decide (rd l 0 ≤ 60)) with
    | false => rw [if_neg (by decide), Bool.false_and, Bool.false_and]; rfl
    | true =>
      rw [if_pos rfl, if_neg (by omega), w64 (i := (0 : Int) + 1) (by omega) (by omega), show (0 : Int) + 1 = 1 from rfl, hr, Bool.true_and]
      rfl
end Go.Proofs.YtbpjgbiclpkdnaaDoor.Q

namespace Go.Proofs.YtbpjgbiclpkdnaaDoor.Q
open Go.RowKit Go.Proofs.YtbpjgbiclpkdnaaDoorW.PrintWords Go.Proofs.YtbpjgbiclpkdnaaDoorW.PrintLast Go.Proofs.YtbpjgbiclpkdnaaDoorW.PrintMore
set_option linter.unusedVariables false
set_option linter.unusedSimpArgs false

theorem ba_ext {a b : ByteArray} (h : a.data.toList = b.data.toList) : a = b := by
  have : a.data = b.data := Array.toList_inj.1 h
  cases a
  cases b
  cases this
  rfl
theorem numB_data (x : Int) : (numB x).data.toList = Lib.itoa x := by unfold numB; simp
theorem joinB_data (ps : List ByteArray) (sep : ByteArray) : (joinB ps sep).data.toList = Lib.join (ps.map (·.data.toList)) sep.data.toList := by unfold joinB; simp
theorem size_data (a : ByteArray) : a.size = a.data.toList.length := rfl
theorem itoa_len (x : Int) (h : 0 ≤ x ∧ x ≤ 1000000) : (Lib.itoa x).length ≤ 1000001 := by
  unfold Lib.itoa
  rw [if_neg (by omega)]
  have := dec_len x.toNat
  omega
/-- The reference's decimal text is the library's. -/
theorem l1Num_eq : ∀ (n : Nat), n ≤ 1000000 → ∀ k, n < k → spec_l1Num.f k (n : Int) = some (numB (n : Int)) := by
  intro n
  induction n using Nat.strongRecOn with
  | _ n ih =>
    intro hn k hk
    obtain ⟨k, rfl⟩ : ∃ m, k = m + 1 := ⟨k - 1, by omega⟩
    have hi : Lib.itoa (n : Int) = Lib.decDigits n := by unfold Lib.itoa; rw [if_neg (by omega), Int.toNat_natCast]
    rw [spec_l1Num.f]
    by_cases h : n < 10
    · rw [if_pos (by omega)]
      congr 1
      apply ba_ext
      rw [numB_data, hi, Lib.decDigits, dif_pos h, w64 (by omega) (by omega)]
      have e : (48 + (n : Int)) % 256 = ((48 + n : Nat) : Int) := by omega
      rw [e, strOfNums_data, List.map_singleton, Int.toNat_natCast]
    · have h1 : Int.tdiv (n : Int) 10 = ((n / 10 : Nat) : Int) := by rw [Int.tdiv_eq_ediv_of_nonneg (by omega)]; omega
      have h2 : Int.tmod (n : Int) 10 = ((n % 10 : Nat) : Int) := by rw [Int.tmod_eq_emod_of_nonneg (by omega)]; omega
      rw [if_neg (by omega), h1, h2, w64 (by omega) (by omega), ih (n / 10) (by omega) (by omega) k (by omega), Option.bind_some, Option.bind_some, w64 (by omega) (by omega)]
      have hsz : (numB ((n / 10 : Nat) : Int)).size ≤ 1000001 := by rw [size_data, numB_data]; exact itoa_len _ (by omega)
      have e : (48 + ((n % 10 : Nat) : Int)) % 256 = ((48 + n % 10 : Nat) : Int) := by omega
      rw [e]
      have e2 : (strOfNums [((48 + n % 10 : Nat) : Int)]).data.toList = [UInt8.ofNat (48 + n % 10)] := by rw [strOfNums_data, List.map_singleton, Int.toNat_natCast]
      have hs1 : (strOfNums [((48 + n % 10 : Nat) : Int)]).size = 1 := by rw [size_data, e2]; rfl
      rw [if_pos (by omega)]
      congr 1
      apply ba_ext
      have hi2 : Lib.itoa ((n / 10 : Nat) : Int) = Lib.decDigits (n / 10) := by unfold Lib.itoa; rw [if_neg (by omega), Int.toNat_natCast]
      rw [Go.Joins.data_append, numB_data, numB_data, hi, hi2, e2, Lib.decDigits.eq_def n, dif_neg h]
/-- One text more. -/
theorem join_snoc (sep : List UInt8) (x : List UInt8) : ∀ xs : List (List UInt8), xs ≠ [] → Lib.join (xs ++ [x]) sep = Lib.join xs sep ++ sep ++ x := by
  intro xs
  induction xs with
  | nil => intro h; exact absurd rfl h
  | cons y ys ih =>
    intro _
    unfold Lib.join at ih ⊢
    cases ys with
    | nil => simp [List.intercalate_cons_cons]
    | cons z zs =>
      rw [List.cons_append, List.cons_append, List.intercalate_cons_cons, ← List.cons_append, ih (by simp), List.intercalate_cons_cons]
      simp [List.append_assoc]
theorem joinB_snoc (sep p : ByteArray) (ps : List ByteArray) (h : ps ≠ []) : joinB (ps ++ [p]) sep = (joinB ps sep ++ sep) ++ p := by
  apply ba_ext
  rw [joinB_data, Go.Joins.data_append, Go.Joins.data_append, joinB_data, List.map_append, List.map_singleton, join_snoc _ _ _ (by simpa using h)]
theorem joinB_one (sep p : ByteArray) : (⟨#[]⟩ : ByteArray) ++ p = joinB [p] sep := by
  apply ba_ext
  rw [joinB_data, Go.Joins.data_append]
  simp [Lib.join]
end Go.Proofs.YtbpjgbiclpkdnaaDoor.Q

namespace Go.Proofs.YtbpjgbiclpkdnaaDoor.Q
open Go.RowKit Go.Proofs.YtbpjgbiclpkdnaaDoorW.PrintWords Go.Proofs.YtbpjgbiclpkdnaaDoorW.PrintLast Go.Proofs.YtbpjgbiclpkdnaaDoorW.PrintMore
set_option linter.unusedVariables false
set_option linter.unusedSimpArgs false

theorem rdText_l0 (l : List Int) (hn : l.length ≤ 1000) (hl : ∀ x ∈ l, 0 ≤ x ∧ x < 100) : ∀ d k i, i + d = l.length → d + 200 < k → spec_rdText.l0 k (joinB ((l.take i).map numB) ⟨#[44]⟩) l (l.length : Int) (i : Int) = some (joinB (l.map numB) ⟨#[44]⟩) := by
  intro d
  induction d with
  | zero =>
    intro k i hi hk
    obtain ⟨k, rfl⟩ : ∃ m, k = m + 1 := ⟨k - 1, by omega⟩
    rw [spec_rdText.l0, if_neg (by omega), List.take_of_length_le (by omega)]
  | succ d ih =>
    intro k i hi hk
    obtain ⟨k, rfl⟩ : ∃ m, k = m + 1 := ⟨k - 1, by omega⟩
    have hlt : i < l.length := by omega
    have hx := hl _ (List.getElem_mem hlt)
    obtain ⟨n, hxe⟩ : ∃ n : Nat, l[i] = (n : Int) := ⟨l[i].toNat, by omega⟩
    have hnext : (l.take (i + 1)).map numB = (l.take i).map numB ++ [numB (n : Int)] := by rw [List.take_add_one, List.getElem?_eq_getElem hlt, List.map_append, hxe]; rfl
    have hs0 : (joinB ((l.take i).map numB) ⟨#[44]⟩).size ≤ 1000000 := by
      have h1 := join_len [44] 101 (((l.take i).map numB).map (·.data.toList)) (fun y hy => by
        rw [List.map_map, List.mem_map] at hy
        obtain ⟨z, hz, rfl⟩ := hy
        have hz2 := hl z (List.mem_of_mem_take hz)
        show (Lib.itoa z).length ≤ 101
        unfold Lib.itoa
        rw [if_neg (by omega)]
        have := dec_len z.toNat
        omega)
      rw [List.length_map, List.length_map, List.length_take] at h1
      rw [size_data, joinB_data]
      have h2 : min i l.length * (101 + [(44 : UInt8)].length) ≤ 1000 * 102 := Nat.mul_le_mul (by omega) (by simp)
      exact Nat.le_trans h1 (by omega)
    have hs1 : (numB (n : Int)).size ≤ 101 := by
      rw [size_data, numB_data]
      unfold Lib.itoa
      rw [if_neg (by omega)]
      have := dec_len (n : Int).toNat
      omega
    have hs2 : ((joinB ((l.take i).map numB) ⟨#[44]⟩) ++ (⟨#[44]⟩ : ByteArray)).size ≤ 1000001 := by
      rw [size_data, Go.Joins.data_append, List.length_append]
      have : ((⟨#[44]⟩ : ByteArray).data.toList).length = 1 := rfl
      rw [size_data] at hs0
      omega
    have hrec := ih k (i + 1) (by omega) (by omega)
    rw [hnext] at hrec
    rw [spec_rdText.l0, if_pos (by omega), if_pos (by omega), if_pos (by omega), rd_nat l i hlt, hxe, l1Num_eq n (by omega) k (by omega), Option.bind_some, w64 (i := (i : Int) + 1) (by omega) (by omega), show (i : Int) + 1 = ((i + 1 : Nat) : Int) by omega]
    by_cases h0 : i = 0
    · rw [if_neg (by omega), Option.bind_some, if_pos (by omega)]
      subst h0
      rw [List.take_zero, List.map_nil, List.nil_append] at hrec
      rw [List.take_zero, List.map_nil, show joinB [] (⟨#[44]⟩ : ByteArray) = (⟨#[]⟩ : ByteArray) from rfl, joinB_one ⟨#[44]⟩]
      exact hrec
    · have hb1 : (joinB ((l.take i).map numB) ⟨#[44]⟩).size + 1 ≤ 9223372036854775807 := by omega
      have hb2 : ((joinB ((l.take i).map numB) ⟨#[44]⟩) ++ (⟨#[44]⟩ : ByteArray)).size + (numB (n : Int)).size ≤ 9223372036854775807 := by omega
      rw [if_pos (by omega), if_pos hb1, if_pos hb2]
      rw [joinB_snoc _ _ _ (by
        intro h
        have := congrArg List.length h
        rw [List.length_map, List.length_take] at this
        have h2 : min i l.length = 0 := this
        omega)] at hrec
      exact hrec
theorem lengthsText_both (l0 : List Int) (hn : l0.length ≤ 10000000) : ∃ r : ByteArray × Bool, Ev (fun k => spec_LengthsText.f k l0) r ∧ Ev (fun k => impl_LengthsText.f k l0) r := by
  by_cases hB : lengthsB l0 = true
  · have hB2 := hB
    unfold lengthsB okR at hB2
    simp only [Bool.and_eq_true, decide_eq_true_eq, List.all_eq_true] at hB2
    obtain ⟨⟨hn1, hn4⟩, hok, _⟩ := hB2
    have hl : ∀ x ∈ l0, 0 ≤ x ∧ x < 100 := fun x hx => by have := hok x hx; omega
    refine ⟨(joinB (l0.map numB) ⟨#[44]⟩, true), ⟨l0.length + 300, fun k hk => ?_⟩, ⟨l0.length + 300, fun k hk => ?_⟩⟩
    · show spec_LengthsText.f k _ = _
      unfold spec_LengthsText.f spec_rdText.f
      rw [rdLengths_eq l0 (by omega) k (by omega), Option.bind_some, if_pos hB]
      have h := rdText_l0 l0 (by omega) hl l0.length k 0 (by omega) (by omega)
      rw [List.take_zero, List.map_nil, Int.natCast_zero, show joinB [] (⟨#[44]⟩ : ByteArray) = (⟨#[]⟩ : ByteArray) from rfl] at h
      rw [h, Option.bind_some]
    · show impl_LengthsText.f k _ = _
      unfold impl_LengthsText.f impl_joined.f
      have hj : joinOk l0 (⟨#[44]⟩ : ByteArray) = true := by
        unfold joinOk
        simp only [Bool.and_eq_true, decide_eq_true_eq, List.all_eq_true]
        exact ⟨⟨by omega, by decide⟩, hl⟩
      rw [areLengths_eq l0 (by omega) k (by omega), Option.bind_some, if_pos hB, if_pos hj, Option.bind_some]
  · have hB' : lengthsB l0 = false := by simpa using hB
    refine ⟨(⟨#[]⟩, false), ⟨l0.length + 300, fun k hk => ?_⟩, ⟨l0.length + 300, fun k hk => ?_⟩⟩
    · show spec_LengthsText.f k _ = _
      unfold spec_LengthsText.f
      rw [rdLengths_eq l0 (by omega) k (by omega), Option.bind_some, hB', if_neg (by decide)]
    · show impl_LengthsText.f k _ = _
      unfold impl_LengthsText.f
      rw [areLengths_eq l0 (by omega) k (by omega), Option.bind_some, hB', if_neg (by decide)]
end Go.Proofs.YtbpjgbiclpkdnaaDoor.Q

namespace Go.Proofs.YtbpjgbiclpkdnaaDoor.Q
open Go.RowKit Go.Proofs.YtbpjgbiclpkdnaaDoorW.PrintWords Go.Proofs.YtbpjgbiclpkdnaaDoorW.PrintLast Go.Proofs.YtbpjgbiclpkdnaaDoorW.PrintMore
set_option linter.unusedVariables false
set_option linter.unusedSimpArgs false

theorem Ev_from {α : Type} {g : Nat → Option α} {r : α} (N : Nat) (h : ∀ k, N < k → g k = some r) : Ev g r := ⟨N + 1, fun k hk => h k (by omega)⟩
theorem Ev_some {α : Type} (r : α) : Ev (fun _ => some r) r := Ev.now r
theorem eqIntS_ev (a : List Int) (h : a.length ≤ 10000000) : Ev (fun k => laws_eqIntS.f k a a) true := Ev_from a.length fun k hk => eqIntS_self a (by omega) k hk
theorem markIntS_ev (a : List Int) (h : a.length ≤ 10000000) (n : Int) (h0 : 0 ≤ n) (hn : n ≤ 10000000000) : Ev (fun k => laws_markIntS.f k a n) (n + (a.length : Int), marks n a.length) := Ev_from a.length fun k hk => markIntS_eq a n h0 (by omega) k hk
theorem heldIntS_ev (m : Nat) (h : m ≤ 10000000) (n : Int) (h0 : 0 ≤ n) (hn : n ≤ 10000000000) : Ev (fun k => laws_heldIntS.f k (marks n m) n) (n + (m : Int)) := Ev_from m fun k hk => heldIntS_eq m n h0 (by omega) k hk
/-- The two answers of one call. -/
theorem Ev_unique {α : Type} {g : Nat → Option α} {r s : α} (h : Ev g r) (h' : Ev g s) : r = s := by
  obtain ⟨K, h⟩ := h
  obtain ⟨K', h'⟩ := h'
  have a := h (max K K') (by omega)
  have b := h' (max K K') (by omega)
  rw [a] at b
  injection b
end Go.Proofs.YtbpjgbiclpkdnaaDoor.Q

namespace Go.Proofs.YtbpjgbiclpkdnaaDoor.Q
open Go.RowKit Go.Proofs.YtbpjgbiclpkdnaaDoorW.PrintWords Go.Proofs.YtbpjgbiclpkdnaaDoorW.PrintLast Go.Proofs.YtbpjgbiclpkdnaaDoorW.PrintMore
set_option linter.unusedVariables false
set_option linter.unusedSimpArgs false

theorem toIntS_l0 (l : List Int) (hn : l.length ≤ 100000000000000) : ∀ d k i (x : List Int), i + d = l.length → d < k → x.length = l.length → (∀ j (hj : j < x.length) (hj2 : j < l.length), j < i → x[j] = l[j]) →
    laws_toIntS.l0 k l x (i : Int) = some l := by
  intro d
  induction d with
  | zero =>
    intro k i x hi hk hx hj
    obtain ⟨k, rfl⟩ : ∃ m, k = m + 1 := ⟨k - 1, by omega⟩
    simp only [laws_toIntS.l0]; rw [if_neg (by omega)]
    congr 1
    apply List.ext_getElem
    · omega
    · intro j h1 h2
      exact hj j h1 (by omega) (by omega)
  | succ d ih =>
    intro k i x hi hk hx hj
    obtain ⟨k, rfl⟩ : ∃ m, k = m + 1 := ⟨k - 1, by omega⟩
    simp only [laws_toIntS.l0]
    rw [if_pos (by omega), if_pos (by omega), if_pos (by omega), w64 (i := (i : Int) + 1) (by omega) (by omega), rd_nat l i (by omega)]
    have := ih k (i + 1) (x.set (i : Int).toNat (l[i]'(by omega))) (by omega) (by omega) (by simp [hx]) (fun j hj1 hj2 hj3 => by
      simp only [Int.toNat_natCast]
      rw [List.getElem_set]
      split
      · rename_i e; subst e; rfl
      · rename_i e; exact hj j (by simpa using hj1) hj2 (by omega))
    rw [show ((i + 1 : Nat) : Int) = (i : Int) + 1 by omega] at this
    exact this
theorem toIntS_eq (l : List Int) (hn : l.length ≤ 1000000000) (k : Nat) (hk : l.length < k) : laws_toIntS.f k l = some l := by
  unfold laws_toIntS.f
  rw [if_pos (by omega), if_pos (by omega)]
  exact toIntS_l0 l (by omega) l.length k 0 _ (by omega) hk (by simp) (fun j _ _ h => absurd h (by omega))
theorem toIntS_ev (a : List Int) (h : a.length ≤ 10000000) : Ev (fun k => laws_toIntS.f k a) a := ⟨a.length + 1, fun k hk => toIntS_eq a (by omega) k (by omega)⟩
end Go.Proofs.YtbpjgbiclpkdnaaDoor.Q

namespace Go.Proofs.YtbpjgbiclpkdnaaDoor.Pure
open Go.RowKit Go.Proofs.YtbpjgbiclpkdnaaDoor.Q Go.Proofs.YtbpjgbiclpkdnaaDoorW.PrintWords Go.Proofs.YtbpjgbiclpkdnaaDoorW.PrintLast
set_option linter.unusedVariables false
set_option linter.unusedSimpArgs false

set_option maxHeartbeats 2000000 in
set_option maxRecDepth 10000 in
theorem FnExactLengthsText : ∀ (l0 : List Int), l0.length ≤ maxLen → l0.length * 8 ≤ 140737488351232 → (∀ x ∈ l0, (Lit.int .i64 x).wf = true) → ∃ k, laws_FnExactLengthsText.f k l0 = some true := by
  intro l0 _ h0 g0
  refine Ev.rounds (g := fun k => laws_FnExactLengthsText.f k l0) ?_
  by_cases hl0 : l0.length ≤ 1048576
  · skip
    obtain ⟨r, hs, hi⟩ := lengthsText_both l0 (by omega)
    simp only [laws_FnExactLengthsText.f, Option.bind_some]
    repeat' (first
      | exact Ev_some _
      | (simp (disch := omega) only [Option.bind_some, if_neg, if_pos, bne_self_eq_false, Bool.false_eq_true, if_false, if_true, eq_self])
      | refine Ev.bind (toIntS_ev l0 (by omega)) ?_
      | refine Ev.bind (eqIntS_ev l0 (by omega)) ?_
      | refine Ev.bind (markIntS_ev l0 (by omega) _ (by omega) (by omega)) ?_
      | refine Ev.bind hs ?_
      | refine Ev.bind hi ?_
      | refine Ev.step (fun k => by rw [laws_FnExactLengthsText.j0]) ?_)
  · simp (disch := omega) only [laws_FnExactLengthsText.f, if_pos, if_neg]
    exact Ev_some _
end Go.Proofs.YtbpjgbiclpkdnaaDoor.Pure

namespace Go.Proofs.YtbpjgbiclpkdnaaDoor.HO
open Go.ChangeShapes Go.WideShapes Go.Deep Go.RowKit Go.Proofs.YtbpjgbiclpkdnaaDoorW.PrintWords
set_option linter.unusedVariables false
section
variable {H : Type} {enc : TypeId × Value → H} {P : Program} {w : World} {base : Nat} {spare : Nat → Bool} {held : Bool}

/-- A slice of structs of n whole numbers each, opened: F i j is field j of element i. -/
theorem open_ints_struct {t e : TypeId} {fs : Array Field} {fuel : Nat} {cs : List Value} {x : DataW H × List MemPlace} (ht : P.underlying t = some (.slice e)) (he : P.underlying e = some (.struct fs))
    (hone : oneCellFields P fs = true) (hC : P.cellsOf e = fs.size) (hk : ∀ (j : Nat) (f : Field), fs[j]? = some f → P.underlying f.type = some (.int .i64)) (h : DataW.trod enc P w base spare held fuel t cs = some x) :
    (cs = [.slice none 0 0] ∧ x = (.nil, [])) ∨
    ∃ (a : Addr) (len cap : Nat) (F : Nat → Nat → Int) (el sp : List (DataW H)) (ps : List MemPlace), cs = [.slice (some a) len cap] ∧ len ≤ cap ∧ cap ≤ maxLen ∧ x = (.slice el sp, ps) ∧ el.length = len ∧
      ∀ i, i < len → ∀ j, j < fs.size → w.cell? (a.add (i * fs.size + j)) = some (.int .i64 (F i j)) ∧ (Lit.int .i64 (F i j)).wf = true := by
  rcases open_slice ht h with h0 | ⟨a, len, cap, m, n, D, Pl, hcs, hb, hl, hm, hmm, hx, hi⟩
  · exact .inl h0
  · have hlm : len ≤ m := by rw [hmm]; split <;> omega
    have key : ∀ i, i < len → ∃ G : Nat → Int, ∀ j, j < fs.size → w.cell? (a.add (i * fs.size + j)) = some (.int .i64 (G j)) ∧ (Lit.int .i64 (G j)).wf = true := fun i hil => by
      obtain ⟨cs', hc, ht'⟩ := hi i (by omega)
      rw [hC] at hc
      obtain ⟨ys, n', hn', hy, hlen, hyl, hf⟩ := DataW.trod_struct he ht'
      obtain ⟨_, hcl, hat⟩ := World.cells?_some hc
      refine choose_lt (α := Int) (p := fun j v => w.cell? (a.add (i * fs.size + j)) = some (.int .i64 v) ∧ (Lit.int .i64 v).wf = true) (fun j hj => ?_)
      have hfj : fs[j]? = some fs[j] := Array.getElem?_eq_getElem hj
      obtain ⟨ho, hk1⟩ := hone_of hone j _ hfj
      have hcell := hat j hj
      have hv : cs'[j]? = some (cs'[j]'(by omega)) := List.getElem?_eq_getElem (by omega)
      have h1 := hf j _ hfj
      rw [ho, hk1] at h1
      have hone' : (cs'.drop j).take 1 = [cs'[j]'(by omega)] := by
        rw [List.drop_eq_getElem_cons (by omega)]
        rfl
      rw [hone'] at h1
      have hys : ys[j]? = some (ys[j]'(by omega)) := List.getElem?_eq_getElem (by omega)
      obtain ⟨v, e0, _, wv⟩ := DataW.trod_int (hk j _ hfj) (h1.trans hys)
      refine ⟨v, ?_, wv⟩
      rw [← Go.Deep.add_add, hcell, hv]
      simp only [List.cons.injEq, and_true] at e0
      rw [e0]
    obtain ⟨F, hF⟩ := choose_lt (α := Nat → Int) (p := fun i G => ∀ j, j < fs.size → w.cell? (a.add (i * fs.size + j)) = some (.int .i64 (G j)) ∧ (Lit.int .i64 (G j)).wf = true) key
    exact .inr ⟨a, len, cap, F, _, _, _, hcs, hl, hm, hx, by simp, hF⟩

/-- The same of an argument: the numbers, and how many at most. -/
theorem open_structs {t e : TypeId} {fs : Array Field} {a : Option Addr} {len cap : Nat} {d : DataW H} {ps : List MemPlace} {ts : List TypeId} {ds : List (DataW H)} {j : Nat}
    (hsz : (DataW.weightsEach P ts ds).all (· ≤ reachBytes) = true) (htj : ts[j]? = some t) (hdj : ds[j]? = some d) (ht : P.underlying t = some (.slice e)) (he : P.underlying e = some (.struct fs))
    (hone : oneCellFields P fs = true) (hC : P.cellsOf e = fs.size) (hk : ∀ (j : Nat) (f : Field), fs[j]? = some f → P.underlying f.type = some (.int .i64)) {B : Nat} (hB : P.bytesOf e = B)
    (h : DataW.Trod enc P w base spare held t (.slice a len cap) d ps) :
    ∃ F : Nat → Nat → Int, len ≤ cap ∧ len ≤ maxLen ∧ len * B ≤ 140737488351232 ∧ (0 < len → ∃ ad, a = some ad ∧ ∀ i, i < len → ∀ j, j < fs.size → w.cell? (ad.add (i * fs.size + j)) = some (.int .i64 (F i j))) ∧ ∀ i, i < len → ∀ j, j < fs.size → (Lit.int .i64 (F i j)).wf = true := by
  obtain ⟨fuel, hf⟩ := h
  rcases open_ints_struct ht he hone hC hk hf with ⟨hcs, _⟩ | ⟨x, l, c, F, el, sp, ps', hcs, hl, hm, hx, hel, hF⟩
  · simp [Value.cells] at hcs
    obtain ⟨rfl, rfl, rfl⟩ := hcs
    exact ⟨fun _ _ => 0, by omega, by omega, by omega, fun h => absurd h (by omega), fun i hi => absurd hi (by omega)⟩
  · simp [Value.cells] at hcs
    obtain ⟨rfl, rfl, rfl⟩ := hcs
    obtain ⟨hx, _⟩ := Prod.mk.inj hx
    subst hx
    have z := sized_slice hsz htj hdj ht
    rw [hB, hel] at z
    refine ⟨F, hl, by omega, ?_, fun _ => ⟨x, rfl, fun i hi j hj => (hF i hi j hj).1⟩, fun i hi j hj => (hF i hi j hj).2⟩
    have : reachBytes = 140737488351232 := by decide
    rw [this] at z
    exact Nat.le_trans (Nat.mul_le_mul_right _ (by omega)) z

/-- A struct of two whole numbers, by value. -/
theorem open_pair {r : Reach} {b0 : Nat} {t : TypeId} {f0 f1 : Field} {v : Value} {d : DataW H} {p : List MemPlace} (hs : P.underlying t = some (.struct #[f0, f1])) (hone : oneCellFields P #[f0, f1] = true) (hC : P.cellsOf t = 2)
    (h0 : P.underlying f0.type = some (.int .i64)) (h1 : P.underlying f1.type = some (.int .i64)) (hv : Value.okWide P w r b0 t v) (h : DataW.Trod enc P w base spare held t v d p) :
    ∃ x y : Int, v = .agg #[.int .i64 x, .int .i64 y] ∧ p = [] ∧ (Lit.int .i64 x).wf = true ∧ (Lit.int .i64 y).wf = true := by
  obtain ⟨v0, v1, y0, y1, n, rfl, rfl, rfl, g0, g1⟩ := Go.Joins.open_agg2 hs hone hC hv h
  obtain ⟨x, e0, rfl, w0⟩ := DataW.trod_int h0 g0
  obtain ⟨y, e1, rfl, w1⟩ := DataW.trod_int h1 g1
  simp only [List.cons.injEq, and_true] at e0 e1
  subst e0 e1
  exact ⟨x, y, rfl, rfl, w0, w1⟩
end
end Go.Proofs.YtbpjgbiclpkdnaaDoor.HO

namespace Go.Proofs.YtbpjgbiclpkdnaaDoor.fnExactLengthsText
open Go Go.ChangeShapes Go.WideShapes Go.ChangeAt Go.RowKit Go.Proofs.YtbpjgbiclpkdnaaDoorW Go.Proofs.YtbpjgbiclpkdnaaDoorW.PrintWords
open Go.ChangeMaps (open_string shut_string)
set_option linter.unusedVariables false
theorem own : ownKnob Tryd.prog.godebug = none := by kernel_rfl
theorem laidOut : laidOutB Tryd.prog = true := by kernel_rfl
def IsRow (k : IntKind) (w : World) (a : Option Addr) (len cap : Nat) (zs : List Int) : Prop :=
  (a = none ∧ len = 0 ∧ cap = 0 ∧ zs = []) ∨
  ∃ x, a = some x ∧ len ≤ cap ∧ cap ≤ maxLen ∧ zs.length = cap ∧ (∀ i, i < zs.length → w.cell? (x.add i) = some (.int k (zs.getD i 0))) ∧ ∀ n ∈ zs, (Lit.int k n).wf = true
set_option maxRecDepth 100000 in
theorem lifted (os : Os) (started : os.Started) (H : Type) (enc : TypeId × Value → H) :
    ReturnsInHanded {} Tryd.checked os 5 .any (fun w args => (Rows.fnExactLengthsTextSpec.pre enc Tryd.prog Tryd.f5 [] false w args ∧ laidMetH Tryd.prog Rows.fnExactLengthsTextRow.laid w) ∧ sizedMet enc Tryd.prog Tryd.f5 (OpenSpec.ofChange Rows.fnExactLengthsTextSpec) false w args)
      (Rows.fnExactLengthsTextSpec.post enc Tryd.prog Tryd.f5 false true false false) := by
  refine returnsInHanded_of_change_and (C := Tryd.checked) (X := fun w _ => laidMetH Tryd.prog Rows.fnExactLengthsTextRow.laid w) (fun _ _ _ hh h => h.of_heap hh) own started (by kernel_rfl) Tryd.func5
    (ChangeSpec.witness_shaped (enc := enc) (C := Tryd.checked) (os := os) (X := fun w _ => laidMetH Tryd.prog Rows.fnExactLengthsTextRow.laid w) false (World.laidAll Tryd.prog os Rows.fnExactLengthsTextRow.laid) #[.slice none 0 0] 8 (World.laidAll_os _ _ _)
      (World.shaped_of_ZipB (by kernel_rfl) (by kernel_rfl)) (by kernel_rfl) (by kernel_rfl) (by kernel_rfl)
      (by rw [MakeChecks.laidMetH_plain _ _ _ (by kernel_rfl)]; exact laidMet_laidAll _ (by kernel_rfl) (by kernel_rfl))) ?_
  intro W base args ds gs before hval0 hW hcnd hsz0 hL _
  have hsz : (DataW.weightsEach Tryd.prog (Tryd.f5.params.toList ++ Rows.fnExactLengthsTextSpec.plain.varTypes Tryd.prog) (ds ++ gs)).all (· ≤ reachBytes) = true := hsz0
  have hval : ∀ (j : Nat) t v, Tryd.f5.params[j]? = some t → args[j]? = some v → Value.okWide Tryd.prog W .any base t v := hval0
  have hW' := hW
  obtain ⟨p, q, hA0, hV, rfl, hfz, hnd⟩ := hW
  have hA : DataW.TrodAll enc Tryd.prog W 0 (fun _ => true) true Tryd.f5.params.toList args.toList ds p := hA0
  rw [Tryd.params5] at hA hval hsz
  obtain ⟨v0, vs0, d0, ds0, p0, q0, hargs, rfl, rfl, h0, r0⟩ := trodAll_cons hA
  obtain ⟨rfl, rfl, rfl⟩ := trodAll_nil r0
  obtain rfl : args = #[v0] := by cases args; simp_all
  obtain ⟨rfl, rfl⟩ := trodVars_none hV
  obtain ⟨a0, len0, cap0, rfl⟩ := okWide_slice Tryd.underlying33 (hval 0 33 v0 rfl rfl)
  have k0 := h0
  have lt0 : ∀ x ∈ p0, x.block < W.heap.size := by obtain ⟨m, hm⟩ := k0; exact DataW.trod_lt m _ _ _ hm
  obtain ⟨z0, w0⟩ : ∃ zs, IsRow .i64 W a0 len0 cap0 zs := by
    obtain ⟨fuel, hf⟩ := h0
    rcases open_ints Tryd.underlying33 Tryd.underlying3 (by kernel_rfl) hf with ⟨hcs, _⟩ | ⟨x, l, c, zs, hcs, _, hl, hm, hz, _, hcell, hwz⟩
    · simp [Value.cells] at hcs
      obtain ⟨rfl, rfl, rfl⟩ := hcs
      exact ⟨[], .inl ⟨rfl, rfl, rfl, rfl⟩⟩
    · simp [Value.cells] at hcs
      obtain ⟨rfl, rfl, rfl⟩ := hcs
      exact ⟨zs, .inr ⟨_, rfl, hl, hm, by simpa using hz, hcell, hwz⟩⟩
  have y0 : len0 * 8 ≤ 140737488351232 := PrintWords.sized_ints hsz (j := 0) (t := 33) rfl rfl Tryd.underlying33 Tryd.underlying3 (by kernel_rfl) (by kernel_rfl) h0
  clear hA0 hval0 hsz0 hsz
  obtain ⟨l0, rfl, hr0, hm0, hw0, hc0⟩ := ReadsInt.ofRowC w0
  obtain ⟨k, hh⟩ := Pure.FnExactLengthsText l0 hm0 y0 hw0
  refine (Q.laws_FnExactLengthsText.calls k _ _ l0 true W (Kd.C_of_reads (d := (0 : Int)) (h1 := fun _ => rfl) hr0) hc0 hh).mono fun e W' ⟨he, bel⟩ => ?_
  subst he
  exact ⟨_, rfl, _, _, _, [], _, [], hW', trodAll_mk1 (shut_bool Tryd.underlying4 _), (trodAll_cons_mk (Below.trod laidOut (by kernel_rfl) (of_decide_eq_true (by kernel_rfl)) k0 bel lt0) trodAll_mk0), rfl, bel.frame _, fun h => by cases h⟩
theorem over : Rows.fnExactLengthsTextRow.holds Tryd.pinned (OpenSpec.ofChange Rows.fnExactLengthsTextSpec) :=
  OpenClaim.holds_of_wide 5 Tryd.f5 rfl rfl rfl rfl rfl rfl rfl ⟨rfl, rfl, rfl, rfl, rfl⟩ rfl rfl rfl rfl rfl (by kernel_rfl) Tryd.func5 (by kernel_rfl)
    (of_decide_eq_true (by kernel_rfl)) (by unfold Func.isWrapper; first | (rw [if_pos (by decide +kernel)]; kernel_rfl) | (rw [if_neg (by decide +kernel)]; exact ⟨rfl, rfl⟩))
    (fun os started H enc _ => lifted os started H enc)
theorem proved : Rows.FnExactLengthsTextCardSaid :=
  Claim7.holds_tied_plain_at .later [] [.data, .data, .data] true (true, "63dd048b453df939eb45cee5d520d399bb72efcdd51adc626e9296a8de6563f8") true
    over (fun _ h => by cases h) (by kernel_rfl) (fun _ h => by cases h) fnExactLengthsText_row_tie rfl ⟨rfl, rfl⟩ (by kernel_rfl) rfl
    (fun f fn hf hfn => by
      obtain rfl : f = 5 := Option.some.inj ((show Tryd.prog.funcNamed "loop.example/g01334/laws.FnExactLengthsText" = some 5 by kernel_rfl).symm.trans hf) |>.symm
      obtain rfl : fn = Tryd.f5 := (Option.some.inj (Tryd.func5.symm.trans hfn)).symm
      exact ⟨by kernel_rfl, fun j t ht => by
        rw [Tryd.params5] at ht
        have h3 : t = 33 := by
          rcases j with _ | j
          · simpa using ht.symm
          · simp at ht
        subst h3
        exact (show Tryd.prog.wantsStandIn 33 = false by kernel_rfl)⟩)
    (by kernel_rfl)
#print axioms proved
end Go.Proofs.YtbpjgbiclpkdnaaDoor.fnExactLengthsText
namespace Go.Proofs.YtbpjgbiclpkdnaaDoor
/-- The card, under a short name, for the claim. -/
theorem fnExactLengthsText_holds : Rows.FnExactLengthsTextCardSaid := fnExactLengthsText.proved
end Go.Proofs.YtbpjgbiclpkdnaaDoor
