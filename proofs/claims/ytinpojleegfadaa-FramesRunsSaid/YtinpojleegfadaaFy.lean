/- Plain laws on the pages of frames. -/
import Derived.Test.YtinpojleegfadaaFu
set_option linter.unusedVariables false
set_option linter.unusedSimpArgs false
namespace Go.Sx.Fr
open Go
/-! ### Pages -/
def pgOf (f : FrS) : List UInt8 := match f.data with
  | none => zeroPg
  | some d => d.2
def withinP (x y : Int) : Prop := 0 ≤ x ∧ 0 ≤ y ∧ y ≤ 64 ∧ x ≤ 64 - y
instance (x y : Int) : Decidable (withinP x y) := by unfold withinP; infer_instance
theorem within_eq (x y : Int) : (bif (bif (bif decide (x ≥ 0) then decide (y ≥ 0) else false) then decide (y ≤ (64 : Int)) else false) then decide (x ≤ IntKind.i64.wrap ((64) - y)) else false) = decide (withinP x y) := by
  unfold withinP
  by_cases h1 : x ≥ 0
  · by_cases h2 : y ≥ 0
    · by_cases h3 : y ≤ 64
      · rw [wrap_i64 (by omega)]
        simp only [decide_eq_true h1, decide_eq_true h2, decide_eq_true h3, cond_true]
        exact decide_eq_decide.2 (by omega)
      · simp only [decide_eq_true h1, decide_eq_true h2, decide_eq_false h3, cond_true, cond_false]
        exact (decide_eq_false (by omega)).symm
    · simp only [decide_eq_true h1, decide_eq_false h2, cond_true, cond_false]
      exact (decide_eq_false (by omega)).symm
  · simp only [decide_eq_false h1, cond_false]
    exact (decide_eq_false (by omega)).symm
def pgN (fs : List FrS) (n : Int) : List UInt8 := match getF fs n with
  | none => zeroPg
  | some f => pgOf f
def readE (fs : List FrS) (n off k : Int) : Int := if findE fs n false ≠ 0 then findE fs n false else if withinP off k then 0 else 14
def readL (fs : List FrS) (n off k : Int) : List UInt8 := if readE fs n off k = 0 then ((pgN fs n).drop off.toNat).take k.toNat else []
def setPg (b : Nat) (l : List UInt8) (f : FrS) : FrS := { f with data := some (b, l) }
def writeB (b : Nat) (f : FrS) : Nat := match f.data with
  | none => b
  | some d => d.1
def writeF (b : Nat) (fs : List FrS) (n off : Int) (data : List UInt8) : List FrS := if readE fs n off data.length = 0 then updF fs n (fun f => setPg (writeB b f) (wr (pgOf f) off.toNat data) f) else fs
def copyE (fs : List FrS) (a c : Int) : Int := if findE fs a false ≠ 0 then findE fs a false else findE fs c false
def copyF (b : Nat) (fs : List FrS) (a c : Int) : List FrS := if copyE fs a c = 0 then updF fs c (setPg b (pgN fs a)) else fs
theorem pgOf_len {fs : List FrS} (h : PgOk fs) {n : Int} {f : FrS} (hg : getF fs n = some f) : (pgOf f).length = 64 := by
  unfold pgOf
  cases hd : f.data with
  | none => rfl
  | some d => exact h n f hg d hd
theorem zero_take {o k : Nat} (h : o + k ≤ 64) : (zeroPg.drop o).take k = List.replicate k 0 := by
  unfold zeroPg; rw [List.drop_replicate, List.take_replicate, Nat.min_eq_left (by omega)]
theorem find_none {fs : List FrS} {n : Int} (hz : ¬ findE fs n false = 0) (off k : Int) : readE fs n off k = findE fs n false := by unfold readE; rw [if_pos hz]
end Go.Sx.Fr
