import Derived.Test.YtbmefldckdaopaaQ1
import Derived.Test.YtbmefldckdaopaaQ6
import Derived.Test.YtbmefldckdaopaaQ8
namespace Go.Proofs.Ytbmefldckdaopaa.Q
open Go.RowKit Go.Proofs.YtbmefldckdaopaaW.PrintWords Go.Proofs.YtbmefldckdaopaaW.PrintLast Go.Proofs.YtbmefldckdaopaaW.PrintMore
set_option linter.unusedVariables false
set_option linter.unusedSimpArgs false

/-- A law's Thing as the program's. -/
def cvThing (x : S51) : S49 := ⟨x.f0, x.f1, x.f2⟩
theorem w64Thing {i : Int} (h0 : -1000000000000000 ≤ i) (h : i ≤ 1000000000000000) : wrap64 i = i := by
  unfold wrap64; omega
theorem rdIThing (xs : List S49) (i : Nat) (h : i < xs.length) : rd_T49 xs (i : Int) = xs[i] := by
  simp [rd_T49, List.getD_eq_getElem?_getD, h]
theorem rdLThing (xs : List S51) (i : Nat) (h : i < xs.length) : rd_T51 xs (i : Int) = xs[i] := by
  simp [rd_T51, List.getD_eq_getElem?_getD, h]

theorem szThingS_small (l : List S51) (h : l.length ≤ 1048576) : laws_szThingS.f l 1048576 = some (1048576 - (l.length : Int)) := by
  unfold laws_szThingS.f
  rw [w64Thing (by omega) (by omega), if_neg (by omega)]
theorem szThingS_great (l : List S51) (h : 1048576 < l.length) (hm : l.length ≤ 100000000000000) : laws_szThingS.f l 1048576 = some (-1) := by
  unfold laws_szThingS.f
  rw [w64Thing (by omega) (by omega), if_pos (by omega)]

theorem toThingS_l0 (l : List S51) (hn : l.length ≤ 100000000000000) : ∀ d k i (x : List S49), i + d = l.length → d < k → x.length = l.length → (∀ j (hj : j < x.length) (hj2 : j < l.length), j < i → x[j] = cvThing l[j]) →
    laws_toThingS.l0 k l x (i : Int) = some (l.map cvThing) := by
  intro d
  induction d with
  | zero =>
    intro k i x hi hk hx hj
    obtain ⟨k, rfl⟩ : ∃ m, k = m + 1 := ⟨k - 1, by omega⟩
    simp only [laws_toThingS.l0]; rw [if_neg (by omega)]
    congr 1
    apply List.ext_getElem
    · simp [hx]
    · intro j h1 h2
      rw [hj j h1 (by omega) (by omega)]
      simp
  | succ d ih =>
    intro k i x hi hk hx hj
    obtain ⟨k, rfl⟩ : ∃ m, k = m + 1 := ⟨k - 1, by omega⟩
    simp only [laws_toThingS.l0, laws_toThing.f, Option.bind_some]
    rw [if_pos (by omega), if_pos (by omega), if_pos (by omega), w64Thing (i := (i : Int) + 1) (by omega) (by omega), rdLThing l i (by omega)]
    have := ih k (i + 1) (x.set (i : Int).toNat (cvThing (l[i]'(by omega)))) (by omega) (by omega) (by simp [hx]) (fun j hj1 hj2 hj3 => by
      simp only [Int.toNat_natCast]
      rw [List.getElem_set]
      split
      · rename_i e; subst e; rfl
      · rename_i e; exact hj j (by simpa using hj1) hj2 (by omega))
    rw [show ((i + 1 : Nat) : Int) = (i : Int) + 1 by omega] at this
    exact this
theorem toThingS_eq (l : List S51) (hn : l.length ≤ 1000000000) (k : Nat) (hk : l.length < k) : laws_toThingS.f k l = some (l.map cvThing) := by
  unfold laws_toThingS.f
  rw [if_pos (by omega), if_pos (by omega)]
  exact toThingS_l0 l (by omega) l.length k 0 _ (by omega) hk (by simp) (fun j _ _ h => absurd h (by omega))

theorem eqThingS_l0 (a : List S49) (hn : a.length ≤ 100000000000000) : ∀ d k i, i + d = a.length → d < k → laws_eqThingS.l0 k a a (i : Int) = some true := by
  intro d
  induction d with
  | zero =>
    intro k i hi hk
    obtain ⟨k, rfl⟩ : ∃ m, k = m + 1 := ⟨k - 1, by omega⟩
    simp only [laws_eqThingS.l0]; rw [if_neg (by omega)]
  | succ d ih =>
    intro k i hi hk
    obtain ⟨k, rfl⟩ : ∃ m, k = m + 1 := ⟨k - 1, by omega⟩
    simp only [laws_eqThingS.l0, laws_eqThing.f]
    rw [if_pos (by omega), if_pos (by omega), if_pos (by omega), w64Thing (by omega) (by omega)]
    simp only [if_true, Option.bind_some]
    exact ih k (i + 1) (by omega) (by omega)
theorem eqThingS_self (a : List S49) (hn : a.length ≤ 100000000000000) (k : Nat) (hk : a.length < k) : laws_eqThingS.f k a a = some true := by
  unfold laws_eqThingS.f
  rw [if_pos rfl]
  exact eqThingS_l0 a hn a.length k 0 (by omega) hk
end Go.Proofs.Ytbmefldckdaopaa.Q
