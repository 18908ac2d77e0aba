/- Plain laws on the example that awake verifies. -/
import Derived.Test.YtinpojleegfadaaFu
set_option linter.unusedVariables false
set_option linter.unusedSimpArgs false
namespace Go.Sx.Fr
open Go
theorem scanF_congr {fr fr' : Int → Bool} : ∀ (k : Nat) (n : Int), (∀ j, n ≤ j → j < n + k → fr j = fr' j) → scanF fr k n = scanF fr' k n
  | 0, n, _ => rfl
  | k + 1, n, h => by
    simp only [scanF]
    rw [h n (Int.le_refl _) (by omega), scanF_congr k (n + 1) (fun j a b => h j (by omega) (by omega))]
theorem runsL_congr {fr fr' : Int → Bool} : ∀ (k : Nat) (n e : Int), (∀ j, n ≤ j → j < e → fr j = fr' j) → runsL fr k n e = runsL fr' k n e
  | 0, n, e, _ => rfl
  | k + 1, n, e, h => by
    simp only [runsL]
    split
    · rw [scanF_congr (e - n).toNat n (fun j a b => h j a (by omega))]
      have hs := scanF_ge fr' (e - n).toNat n
      rw [runsL_congr k _ e (fun j a b => h j (by omega) b)]
    · rfl
theorem freeB_updF {fs : List FrS} {m n : Int} {ps : List PoolS} : freeB (updF fs m (takeF ps)) n = (freeB fs n && decide (n ≠ m)) := by
  unfold freeB
  rw [getF_updF fs m (takeF ps) (fun _ => rfl)]
  by_cases h : n = m
  · subst h
    rw [if_pos rfl]
    cases getF fs n with
    | none => simp
    | some f => simp [takeF]
  · rw [if_neg h]; simp [h]
theorem freeB_allocF {ps : List PoolS} : ∀ {l : List Int} {fs : List FrS} {n : Int}, freeB (allocF ps fs l) n = (freeB fs n && decide (n ∉ l))
  | [], fs, n => by simp [allocF]
  | m :: l, fs, n => by
    show freeB (allocF ps (updF fs m (takeF ps)) l) n = _
    rw [freeB_allocF, freeB_updF, Bool.and_assoc, ← Bool.decide_and]
    congr 1
    simp
def awP : List PoolS := [⟨⟨#[114, 97, 109]⟩, 0, 8, true, false⟩, ⟨⟨#[100, 109, 97]⟩, 8, 4, false, false⟩]
def awR1 : ReqS := ⟨[], 2, 1, false, false⟩
def awR2 : ReqS := ⟨[], 2, 4, true, false⟩
theorem aw_new : newE awP = 0 := by kernel_rfl
theorem aw_free {T : TabS} {fs : List FrS} (hp : T.pools = awP) (ht : TabOk T fs) (h0 : ∀ n f, getF fs n = some f → f.refs = 0) {n : Int} (h1 : 0 ≤ n) (h2 : n < 8) : freeB fs n = true := by
  obtain ⟨f, hf, _⟩ := ht.cov 0 ⟨⟨#[114, 97, 109]⟩, 0, 8, true, false⟩ n (by rw [hp]; rfl) h1 (by show n < 0 + 8; omega)
  exact freeB_true hf (h0 n f hf)
theorem aw_1 {T : TabS} {fs : List FrS} (hp : T.pools = awP) (ht : TabOk T fs) (h0 : ∀ n f, getF fs n = some f → f.refs = 0) : allocE T.pools fs awR1 = 0 ∧ allocO T.pools fs awR1 = [0, 1] := by
  have hr : runsP fs ⟨⟨#[114, 97, 109]⟩, 0, 8, true, false⟩ = [(0, 8)] := by
    show runsL (freeB fs) 8 0 8 = _
    rw [runsL_congr (fr' := fun _ => true) 8 0 8 (fun j a b => aw_free hp ht h0 a b)]; kernel_rfl
  have hf : foundL T.pools fs awR1 = [0, 1] := by
    rw [hp]
    show singL awP fs false 2 (askL awP []) [] = _
    rw [show askL awP [] = [0] by kernel_rfl]
    simp only [singL, awP, List.getElem?_cons_zero, singP, freeL, hr]
    kernel_rfl
  have he : allocE T.pools fs awR1 = 0 := by
    unfold allocE
    rw [hf, hp]; kernel_rfl
  exact ⟨he, by unfold allocO; rw [if_pos he, hf]⟩
theorem aw_2 {T : TabS} {fs : List FrS} (hp : T.pools = awP) (ht : TabOk T fs) (h0 : ∀ n f, getF fs n = some f → f.refs = 0) : allocE T.pools (allocF T.pools fs [0, 1]) awR2 = 0 ∧ allocO T.pools (allocF T.pools fs [0, 1]) awR2 = [4, 5] := by
  have hr : runsP (allocF T.pools fs [0, 1]) ⟨⟨#[114, 97, 109]⟩, 0, 8, true, false⟩ = [(2, 8)] := by
    show runsL (freeB (allocF T.pools fs [0, 1])) 8 0 8 = _
    rw [runsL_congr (fr' := fun j => decide (2 ≤ j)) 8 0 8 (fun j a b => by rw [freeB_allocF, aw_free hp ht h0 a b, Bool.true_and]; apply decide_eq_decide.2; simp; omega)]; kernel_rfl
  have hf : foundL T.pools (allocF T.pools fs [0, 1]) awR2 = [4, 5] := by
    show runO 2 (runV T.pools (allocF T.pools fs [0, 1]) 4 2 false (askL T.pools [])) = _
    rw [show askL T.pools [] = [0] by rw [hp]; kernel_rfl]
    simp only [runV]
    rw [show T.pools[0]? = some ⟨⟨#[114, 97, 109]⟩, 0, 8, true, false⟩ by rw [hp]; rfl]
    simp only [hr]
    kernel_rfl
  have he : allocE T.pools (allocF T.pools fs [0, 1]) awR2 = 0 := by
    unfold allocE
    rw [hf, hp]; kernel_rfl
  exact ⟨he, by unfold allocO; rw [if_pos he, hf]⟩
end Go.Sx.Fr
