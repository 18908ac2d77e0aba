/- The longest run, frame by frame. -/
import Derived.Test.YtinpojleegfadaaGc
set_option linter.unusedVariables false
set_option linter.unusedSimpArgs false
namespace Go.Proofs.Ytinpojleegfadaa
open Go Go.Sx Go.Sx.Fr
/-- The longest run, frame by frame. -/
def uS (fr : Int → Bool) : Nat → Int → Int → Int → Int
  | 0, _, _, lg => lg
  | k + 1, f, run, lg => if fr f = true then uS fr k (f + 1) (run + 1) (if run + 1 > lg then run + 1 else lg) else uS fr k (f + 1) 0 lg
def bigR (m : Int) (c : Int × Int) : Int := if c.2 - c.1 > m then c.2 - c.1 else m
theorem uS_free {fr : Int → Bool} : ∀ (i k : Nat) (a run lg : Int), (∀ f, a ≤ f → f < a + i → fr f = true) → 0 ≤ run →
    uS fr (i + k) a run lg = uS fr k (a + i) (run + i) (if i = 0 then lg else if run + i > lg then run + i else lg)
  | 0, k, a, run, lg, _, _ => by simp
  | i + 1, k, a, run, lg, h, h0 => by
    rw [show i + 1 + k = (i + k) + 1 by omega]
    simp only [uS]
    rw [if_pos (h a (by omega) (by omega)), uS_free i k (a + 1) (run + 1) _ (fun f h1 h2 => h f (by omega) (by omega)) (by omega),
      show a + 1 + (i : Int) = a + ((i + 1 : Nat) : Int) by omega, show run + 1 + (i : Int) = run + ((i + 1 : Nat) : Int) by omega]
    congr 1
    by_cases hi : i = 0
    · subst hi; simp
    · rw [if_neg hi, if_neg (Nat.succ_ne_zero i)]
      repeat' split
      all_goals omega
theorem uS_runs {fr : Int → Bool} : ∀ (q : Nat) (n e lg : Int), (e - n).toNat ≤ q → uS fr (e - n).toNat n 0 lg = (runsL fr (e - n).toNat n e).foldl bigR lg
  | q, n, e, lg, hq => by
    by_cases hn : n < e
    · match q, hq with
      | 0, hq => omega
      | q + 1, hq =>
        obtain ⟨m, hm⟩ : ∃ m, scanF fr (e - n).toNat n = m := ⟨_, rfl⟩
        have hge := scanF_ge fr (e - n).toNat n
        obtain ⟨hs1, hs2⟩ := scanF_spec fr (e - n).toNat n
        rw [hm] at hge hs1 hs2
        rw [runsL_step _ hn hm, List.foldl_append, show (e - n).toNat = (m - n).toNat + (e - m).toNat by omega, uS_free _ _ _ _ _ (fun f h1 h2 => hs1 f h1 (by omega)) (Int.le_refl _), show n + ((m - n).toNat : Int) = m by omega]
        have hlg : (if (m - n).toNat = 0 then lg else if (0 : Int) + ((m - n).toNat : Int) > lg then (0 : Int) + ((m - n).toNat : Int) else lg) = ((if n < m then [(n, m)] else []).foldl bigR lg) := by
          by_cases h : n < m
          · rw [if_neg (by omega), if_pos h]; simp only [List.foldl_cons, List.foldl_nil, bigR]; rw [show (0 : Int) + ((m - n).toNat : Int) = m - n by omega]
          · rw [if_pos (by omega), if_neg h]; rfl
        rw [hlg]
        generalize ((if n < m then [(n, m)] else []).foldl bigR lg) = lg2
        by_cases hme : m < e
        · have hf : fr m = false := by rcases hs2 with h | h; omega; exact h
          obtain ⟨r, hr⟩ : ∃ r, (e - m).toNat = r + 1 := ⟨(e - m).toNat - 1, by omega⟩
          rw [hr]; simp only [uS]
          rw [hf, if_neg (by simp), show r = (e - (m + 1)).toNat by omega, uS_runs q (m + 1) e lg2 (by omega)]
        · rw [show (e - m).toNat = 0 by omega, show (e - (m + 1)).toNat = 0 by omega]; rfl
    · rw [show (e - n).toNat = 0 by omega]; rfl
theorem uS_max {fs : List FrS} {p : PoolS} : uS (freeB fs) (p.first + p.count - p.first).toNat p.first 0 0 = maxR (runsP fs p) := uS_runs _ _ _ _ (Nat.le_refl _)
theorem uS_step {fr : Int → Bool} {f e run lg run2 lg2 : Int} (h : f < e) (h1 : fr f = true → run2 = run + 1 ∧ lg2 = if run + 1 > lg then run + 1 else lg) (h2 : fr f = false → run2 = 0 ∧ lg2 = lg) :
    uS fr (e - f).toNat f run lg = uS fr (e - (f + 1)).toNat (f + 1) run2 lg2 := by
  obtain ⟨q, hq⟩ : ∃ q, (e - f).toNat = q + 1 := ⟨(e - f).toNat - 1, by omega⟩
  rw [hq, show (e - (f + 1)).toNat = q by omega]
  simp only [uS]
  split
  · rename_i h3; obtain ⟨rfl, rfl⟩ := h1 h3; rfl
  · rename_i h3; obtain ⟨rfl, rfl⟩ := h2 (by simpa using h3); rfl
theorem sumR_freeC {fs : List FrS} {p : PoolS} : sumR (runsP fs p) = freeC fs p.first p.count.toNat := by
  rw [freeC_end]; exact (flatR_len runsP_lt).symm
end Go.Proofs.Ytinpojleegfadaa
