/- The table of the reference in memory, and plain laws on it. -/
import Derived.Test.YtinpojleegfadaaFw
import Derived.Test.YtinpojleegfadaaFy
set_option linter.unusedVariables false
set_option linter.unusedSimpArgs false
namespace Go.Sx.Fr
open Go
/-! ### The reference's table -/
structure Pg where
  l : List UInt8
  h : l.length = 64
def encPg (p : Pg) : List Value := p.l.map Extern.Stop.cell
theorem encPg_len (p : Pg) : (encPg p).length = 64 := by simp [encPg, p.h]
def mkPg (l : List UInt8) : Pg := if h : l.length = 64 then ⟨l, h⟩ else ⟨zeroPg, rfl⟩
def refsL (fs : List FrS) : List Int := (List.range 4096).map fun n : Nat => rf fs (n : Int)
def pagesL (fs : List FrS) : List Pg := (List.range 4096).map fun n : Nat => mkPg (pgN fs (n : Int))
structure RefS where
  rt : Nat
  pb : Nat
  pc : Nat
  pr : List Value
  rb : Nat
  yb : Nat
def refI (R : RefS) (T : TabS) (fs : List FrS) : Items :=
  [[(R.rt, .cells #[.slice (some ⟨R.pb, 0, none⟩) T.pools.length R.pc, .slice (some ⟨R.rb, 0, none⟩) 4096 4096, .slice (some ⟨R.yb, 0, none⟩) 4096 4096] 81)], [(R.pb, .cells (arr encPool T.pools R.pr) 47)],
   [(R.rb, .cells (arr encInt (refsL fs) []) 3)], [(R.yb, .cells (arr encPg (pagesL fs) []) 71)]]
theorem refsL_len (fs : List FrS) : (refsL fs).length = 4096 := by simp [refsL]
theorem pagesL_len (fs : List FrS) : (pagesL fs).length = 4096 := by simp [pagesL]
theorem refsL_get (fs : List FrS) {n : Int} (h0 : 0 ≤ n) (h1 : n < 4096) : (refsL fs)[n.toNat]? = some (rf fs n) := by
  unfold refsL
  rw [List.getElem?_map, List.getElem?_range (by omega), Option.map_some]
  congr 2; omega
theorem pagesL_get (fs : List FrS) {n : Int} (h0 : 0 ≤ n) (h1 : n < 4096) : (pagesL fs)[n.toNat]? = some (mkPg (pgN fs n)) := by
  unfold pagesL
  rw [List.getElem?_map, List.getElem?_range (by omega), Option.map_some]
  congr 3; omega
theorem refsL_upd {fs : List FrS} {n : Int} {f : FrS} {g : FrS → FrS} (hg : ∀ f, (g f).n = f.n) (h : getF fs n = some f) (h0 : 0 ≤ n) (h1 : n < 4096) : refsL (updF fs n g) = (refsL fs).set n.toNat (g f).refs := by
  apply List.ext_getElem?
  intro i
  rw [List.getElem?_set]
  by_cases hi : n.toNat = i
  · subst hi
    rw [if_pos rfl, if_pos (by rw [refsL_len]; omega), refsL_get _ h0 h1, rf_updF hg, if_pos rfl, h]
  · rw [if_neg hi]
    by_cases hl : i < 4096
    · have e : i = ((i : Nat) : Int).toNat := by simp
      rw [e, refsL_get (updF fs n g) (by omega) (by omega), refsL_get fs (by omega) (by omega), rf_updF hg, if_neg (by omega)]
    · rw [List.getElem?_eq_none (by rw [refsL_len]; omega), List.getElem?_eq_none (by rw [refsL_len]; omega)]
theorem pgN_updF {fs : List FrS} {n m : Int} {g : FrS → FrS} (hg : ∀ f, (g f).n = f.n) : pgN (updF fs n g) m = if m = n then (match getF fs n with | none => zeroPg | some f => pgOf (g f)) else pgN fs m := by
  unfold pgN
  rw [getF_updF fs n g hg]
  by_cases h : m = n
  · subst h; rw [if_pos rfl, if_pos rfl]; cases getF fs m <;> rfl
  · rw [if_neg h, if_neg h]
theorem pagesL_upd {fs : List FrS} {n : Int} {f : FrS} {g : FrS → FrS} (hg : ∀ f, (g f).n = f.n) (h : getF fs n = some f) (h0 : 0 ≤ n) (h1 : n < 4096) : pagesL (updF fs n g) = (pagesL fs).set n.toNat (mkPg (pgOf (g f))) := by
  apply List.ext_getElem?
  intro i
  rw [List.getElem?_set]
  by_cases hi : n.toNat = i
  · subst hi
    rw [if_pos rfl, if_pos (by rw [pagesL_len]; omega), pagesL_get _ h0 h1, pgN_updF hg, if_pos rfl, h]
  · rw [if_neg hi]
    by_cases hl : i < 4096
    · have e : i = ((i : Nat) : Int).toNat := by simp
      rw [e, pagesL_get (updF fs n g) (by omega) (by omega), pagesL_get fs (by omega) (by omega), pgN_updF hg, if_neg (by omega)]
    · rw [List.getElem?_eq_none (by rw [pagesL_len]; omega), List.getElem?_eq_none (by rw [pagesL_len]; omega)]
theorem set_self {α : Type} {l : List α} {i : Nat} {x : α} (h : l[i]? = some x) : l.set i x = l := by
  apply List.ext_getElem?
  intro j
  rw [List.getElem?_set]
  by_cases hj : i = j
  · subst hj; rw [if_pos rfl, if_pos (List.getElem?_eq_some_iff.1 h).1, h]
  · rw [if_neg hj]
/-- Pages stay where only the count turns. -/
theorem pagesL_same {fs : List FrS} {n : Int} {g : FrS → FrS} (hg : ∀ f, (g f).n = f.n) (hd : ∀ f, (g f).data = f.data) : pagesL (updF fs n g) = pagesL fs := by
  unfold pagesL
  refine List.map_congr_left (fun i _ => ?_)
  rw [pgN_updF hg]
  split
  · rename_i e
    rw [e]
    unfold pgN
    cases getF fs n with
    | none => rfl
    | some f => simp only [pgOf, hd]
  · rfl
/-- The index of a frame's pool. -/
def ofN : List PoolS → Int → Option Nat
  | [], _ => none
  | p :: l, n => if n ≥ p.first ∧ n < p.first + p.count then some 0 else (ofN l n).map (· + 1)
def optI : Option Nat → Int
  | none => -1
  | some i => i
theorem ofN_some : ∀ {ps : List PoolS} {n : Int} {i : Nat}, ofN ps n = some i → ∃ p, ps[i]? = some p ∧ p.first ≤ n ∧ n < p.first + p.count
  | [], n, i, h => by cases h
  | p :: l, n, i, h => by
    simp only [ofN] at h
    split at h
    · rename_i hs; cases h; exact ⟨p, rfl, hs.1, hs.2⟩
    · obtain ⟨j, hj, rfl⟩ := Option.map_eq_some_iff.1 h
      obtain ⟨q, h2, h3⟩ := ofN_some hj
      exact ⟨q, by simpa using h2, h3⟩
theorem ofN_none : ∀ {ps : List PoolS} {n : Int}, ofN ps n = none → ∀ p ∈ ps, ¬ (p.first ≤ n ∧ n < p.first + p.count)
  | [], n, _, p, hp => by cases hp
  | q :: l, n, h, p, hp => by
    simp only [ofN] at h
    split at h
    · cases h
    · rename_i hs
      rcases List.mem_cons.1 hp with rfl | hp
      · exact fun e => hs e
      · exact ofN_none (Option.map_eq_none_iff.1 h) p hp
theorem of_get {T : TabS} {fs : List FrS} (ht : TabOk T fs) {n : Int} {f : FrS} (hg : getF fs n = some f) : ofN T.pools n = some f.pool ∧ 0 ≤ n ∧ n < 4096 := by
  obtain ⟨p, hp, h1, h2⟩ := ht.cov2 n f hg
  have hps := ht.ps _ p hp
  refine ⟨?_, by omega, by omega⟩
  cases ho : ofN T.pools n with
  | none => exact (ofN_none ho p (List.mem_of_getElem? hp) ⟨h1, h2⟩).elim
  | some i =>
    obtain ⟨q, hq, h3, h4⟩ := ofN_some ho
    obtain ⟨f', hf', hi⟩ := ht.cov i q n hq h3 h4
    rw [hg] at hf'; cases hf'
    rw [hi]
theorem of_none {T : TabS} {fs : List FrS} (ht : TabOk T fs) {n : Int} (hg : getF fs n = none) : ofN T.pools n = none := by
  cases ho : ofN T.pools n with
  | none => rfl
  | some i =>
    obtain ⟨q, hq, h3, h4⟩ := ofN_some ho
    obtain ⟨f', hf', hi⟩ := ht.cov i q n hq h3 h4
    rw [hg] at hf'; cases hf'
theorem ofN_step {ps : List PoolS} {n : Int} {i : Nat} {p : PoolS} (hx : ps[i]? = some p) : ofN (ps.drop i) n = if n ≥ p.first ∧ n < p.first + p.count then some 0 else (ofN (ps.drop (i + 1)) n).map (· + 1) := by rw [drop_of hx]; rfl
theorem idxOf_step {ps : List PoolS} {s : ByteArray} {i : Nat} {p : PoolS} (hx : ps[i]? = some p) : idxOf (ps.drop i) s = if s = p.name then some 0 else (idxOf (ps.drop (i + 1)) s).map (· + 1) := by rw [drop_of hx]; rfl
end Go.Sx.Fr
