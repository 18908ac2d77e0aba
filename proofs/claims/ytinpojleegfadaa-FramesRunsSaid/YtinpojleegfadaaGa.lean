/- The search through the candidates finds what the search through the runs finds. -/
import Derived.Test.YtinpojleegfadaaE4
set_option linter.unusedVariables false
set_option linter.unusedSimpArgs false
namespace Go.Proofs.Ytinpojleegfadaa
open Go Go.Sx Go.Sx.Fr
theorem freeS_add (fr : Int → Bool) (top : Bool) : ∀ (i j : Nat) (a out : Int), freeS fr top (i + j) a out = freeS fr top j (a + i) (freeS fr top i a out)
  | 0, j, a, out => by simp [freeS]
  | i + 1, j, a, out => by
    rw [show i + 1 + j = (i + j) + 1 by omega]
    simp only [freeS]
    rw [freeS_add fr top i j, show a + 1 + (i : Int) = a + ((i + 1 : Nat) : Int) by omega]
theorem freeS_skip (fr : Int → Bool) (top : Bool) : ∀ (k : Nat) (a out : Int), (∀ f, a ≤ f → f < a + k → fr f = false) → freeS fr top k a out = out
  | 0, _, _, _ => rfl
  | k + 1, a, out, h => by
    simp only [freeS]
    rw [h a (by omega) (by omega), if_neg (by simp)]
    exact freeS_skip fr top k (a + 1) out (fun f h1 h2 => h f (by omega) (by omega))
theorem freeS_keep (fr : Int → Bool) : ∀ (k : Nat) (a out : Int), 0 ≤ out → freeS fr false k a out = out
  | 0, _, _, _ => rfl
  | k + 1, a, out, h => by
    simp only [freeS]
    rw [if_neg (by simp; omega)]
    exact freeS_keep fr k (a + 1) out h
theorem freeS_first {fr : Int → Bool} {a b u out : Int} (hu : a ≤ u) (hb : u < b) (h0 : 0 ≤ u) (ho : out < 0) (hf : fr u = true) (hn : ∀ f, a ≤ f → f < u → fr f = false) : freeS fr false (b - a).toNat a out = u := by
  rw [show (b - a).toNat = (u - a).toNat + ((b - u - 1).toNat + 1) by omega, freeS_add, freeS_skip _ _ _ _ _ (fun f h1 h2 => hn f h1 (by omega))]
  simp only [freeS]
  rw [show a + ((u - a).toNat : Int) = u by omega, if_pos ⟨hf, .inl ho⟩]
  exact freeS_keep fr _ _ _ h0
theorem freeS_last {fr : Int → Bool} {a b v out : Int} (hv : a ≤ v) (hb : v < b) (hf : fr v = true) (hn : ∀ f, v < f → f < b → fr f = false) : freeS fr true (b - a).toNat a out = v := by
  rw [show (b - a).toNat = (v - a).toNat + ((b - v - 1).toNat + 1) by omega, freeS_add]
  simp only [freeS]
  rw [show a + ((v - a).toNat : Int) = v by omega, if_pos ⟨hf, .inr (by trivial)⟩]
  exact freeS_skip _ _ _ _ _ (fun f h1 h2 => hn f (by omega) (by omega))
/-- The least multiple from a on. -/
theorem up_spec {a al : Int} (h0 : 0 ≤ a) (ha : 1 ≤ al) : a ≤ (a + al - 1).tdiv al * al ∧ ((a + al - 1).tdiv al * al).tmod al = 0 ∧ ∀ f, a ≤ f → f.tmod al = 0 → (a + al - 1).tdiv al * al ≤ f := by
  rw [Int.tdiv_eq_ediv_of_nonneg (by omega)]
  have h1 := Int.lt_ediv_add_one_mul_self (a + al - 1) (show 0 < al by omega)
  have h2 : ((a + al - 1) / al + 1) * al = (a + al - 1) / al * al + al := by rw [Int.add_mul, Int.one_mul]
  have h3 := Int.ediv_mul_le (a + al - 1) (show al ≠ 0 by omega)
  refine ⟨by omega, Int.mul_tmod_left _ _, fun f hf hm => ?_⟩
  have hd1 : al ∣ f := Int.dvd_of_tmod_eq_zero hm
  have hd2 : al ∣ (a + al - 1) / al * al := Int.dvd_mul_left _ _
  refine Int.not_lt.1 fun hlt => ?_
  have := Int.le_of_dvd (by omega) (Int.dvd_sub hd2 hd1)
  omega
theorem down_spec {x al : Int} (h0 : 0 ≤ x) (ha : 1 ≤ al) : x.tdiv al * al ≤ x ∧ (x.tdiv al * al).tmod al = 0 ∧ ∀ f, f ≤ x → f.tmod al = 0 → f ≤ x.tdiv al * al := by
  rw [Int.tdiv_eq_ediv_of_nonneg h0]
  have h1 := Int.lt_ediv_add_one_mul_self x (show 0 < al by omega)
  have h2 : (x / al + 1) * al = x / al * al + al := by rw [Int.add_mul, Int.one_mul]
  have h3 := Int.ediv_mul_le x (show al ≠ 0 by omega)
  refine ⟨h3, Int.mul_tmod_left _ _, fun f hf hm => ?_⟩
  have hd1 : al ∣ f := Int.dvd_of_tmod_eq_zero hm
  have hd2 : al ∣ x / al * al := Int.dvd_mul_left _ _
  refine Int.not_lt.1 fun hlt => ?_
  have := Int.le_of_dvd (by omega) (Int.dvd_sub hd1 hd2)
  omega
theorem okB_yes {fs : List FrS} {n al f : Int} (hm : f.tmod al = 0) (h : ∀ j, f ≤ j → j < f + n → freeB fs j = true) : okB fs n al f = true := by
  unfold okB
  rw [decide_eq_true hm, decide_eq_true (fun j hj => h _ (by omega) (by omega))]; rfl
theorem scanF_spec (fr : Int → Bool) : ∀ (k : Nat) (n : Int), (∀ j, n ≤ j → j < scanF fr k n → fr j = true) ∧ (scanF fr k n = n + k ∨ fr (scanF fr k n) = false)
  | 0, n => by simp only [scanF]; exact ⟨fun j a b => by omega, .inl (by omega)⟩
  | k + 1, n => by
    simp only [scanF]
    split
    · rename_i h
      obtain ⟨h1, h2⟩ := scanF_spec fr k (n + 1)
      refine ⟨fun j a b => (Int.lt_or_le n j).elim (fun h3 => h1 j (by omega) b) fun h3 => (show n = j by omega) ▸ h, h2.imp (fun h => by omega) id⟩
    · rename_i h
      exact ⟨fun j a b => by omega, .inr (by simpa using h)⟩
/-- The search through the candidates and the search through the runs. -/
theorem runAt_freeS {fs : List FrS} {cnt al : Int} {top : Bool} (ha : 1 ≤ al) (hc : 1 ≤ cnt) : ∀ (q : Nat) (n e out : Int), (e - n).toNat ≤ q → 0 ≤ n → -1 ≤ out →
    freeS (okB fs cnt al) top (e - cnt + 1 - n).toNat n out = if top = false ∧ 0 ≤ out then out else runAt al cnt top (runsL (freeB fs) (e - n).toNat n e) out
  | q, n, e, out, hq, h0, ho => by
    by_cases hn : n < e
    · match q, hq with
      | 0, hq => omega
      | q + 1, hq =>
        obtain ⟨m, hm⟩ : ∃ m, scanF (freeB fs) (e - n).toNat n = m := ⟨_, rfl⟩
        have hge := scanF_ge (freeB fs) (e - n).toNat n
        obtain ⟨hs1, hs2⟩ := scanF_spec (freeB fs) (e - n).toNat n
        rw [hm] at hge hs1 hs2
        have hme : m ≤ e := by omega
        have hs3 : m = e ∨ freeB fs m = false := hs2.imp (fun h => by omega) id
        rw [runsL_step _ hn hm]
        obtain ⟨u1, u2, u3⟩ := up_spec (a := n) (al := al) h0 ha
        generalize hu : (n + al - 1).tdiv al * al = u at u1 u2 u3
        have hno : ∀ f, n ≤ f → f < e - cnt + 1 → f ≤ m → ¬ (f.tmod al = 0 ∧ f + cnt ≤ m) → okB fs cnt al f = false := by
          intro f h1 h2 h3 h4
          by_cases hfm : f.tmod al = 0
          · have : m < f + cnt := by have : ¬ f + cnt ≤ m := fun e => h4 ⟨hfm, e⟩; omega
            rcases hs3 with h5 | h5
            · omega
            · exact okB_no (k := m) h3 this h5
          · exact okB_mod hfm
        have hyes : ∀ f, n ≤ f → f.tmod al = 0 → f + cnt ≤ m → okB fs cnt al f = true := fun f h1 h2 h3 => okB_yes h2 (fun j a b => hs1 j (by omega) (by omega))
        obtain ⟨b, hb⟩ : ∃ b, b = min (m + 1) (e - cnt + 1) := ⟨_, rfl⟩
        have hsplit : freeS (okB fs cnt al) top (e - cnt + 1 - n).toNat n out = freeS (okB fs cnt al) top (e - cnt + 1 - (m + 1)).toNat (m + 1) (freeS (okB fs cnt al) top (b - n).toNat n out) := by
          by_cases hbm : m + 1 ≤ e - cnt + 1
          · have : b = m + 1 := by omega
            rw [this, show (e - cnt + 1 - n).toNat = (m + 1 - n).toNat + (e - cnt + 1 - (m + 1)).toNat by omega, freeS_add, show n + ((m + 1 - n).toNat : Int) = m + 1 by omega]
          · have : b = e - cnt + 1 := by omega
            rw [this, show (e - cnt + 1 - (m + 1)).toNat = 0 by omega]; rfl
        have hrun : ∀ (rs : List (Int × Int)) (out : Int), runAt al cnt top ((if n < m then [(n, m)] else []) ++ rs) out = if u + cnt > m then runAt al cnt top rs out else if top = false then u else runAt al cnt top rs ((m - cnt).tdiv al * al) := by
          intro rs out
          by_cases hnm : n < m
          · rw [if_pos hnm]; simp only [List.cons_append, List.nil_append, runAt, hu]
          · rw [if_neg hnm, if_pos (by omega)]; rfl
        rw [hsplit, hrun]
        by_cases hkeep : top = false ∧ 0 ≤ out
        · rw [if_pos hkeep, hkeep.1, freeS_keep _ _ _ _ hkeep.2, freeS_keep _ _ _ _ hkeep.2]
        · rw [if_neg hkeep]
          by_cases hfit : u + cnt > m
          · rw [if_pos hfit, freeS_skip _ _ _ _ _ (fun f h1 h2 => hno f h1 (by omega) (by omega) (fun e => by have := u3 f h1 e.1; omega)), runAt_freeS ha hc q (m + 1) e out (by omega) (by omega) ho, if_neg hkeep]
          · rw [if_neg hfit]
            cases top with
            | false =>
              have ho' : out < 0 := by have : ¬ 0 ≤ out := fun e => hkeep ⟨rfl, e⟩; omega
              rw [if_pos rfl, freeS_first (a := n) (b := b) u1 (by omega) (by omega) ho' (hyes u u1 u2 (by omega)) (fun f h1 h2 => hno f h1 (by omega) (by omega) (fun e => by have := u3 f h1 e.1; omega)), freeS_keep _ _ _ _ (by omega)]
            | true =>
              rw [if_neg (by decide)]
              obtain ⟨v1, v2, v3⟩ := down_spec (x := m - cnt) (al := al) (by omega) ha
              have v4 := v3 u (by omega) u2
              generalize (m - cnt).tdiv al * al = v at v1 v2 v3 v4 ⊢
              rw [freeS_last (a := n) (b := b) (v := v) (by omega) (by omega) (hyes v (by omega) v2 (by omega)) (fun f h1 h2 => hno f (by omega) (by omega) (by omega) (fun e => by have := v3 f (by omega) e.1; omega)),
                runAt_freeS ha hc q (m + 1) e v (by omega) (by omega) (by omega), if_neg (by simp)]
    · rw [runsL_end _ hn, show (e - cnt + 1 - n).toNat = 0 by omega]
      simp only [freeS, runAt]
      split <;> rfl
theorem runE_eq {fs : List FrS} {p : PoolS} {cnt al : Int} {top : Bool} (ha : 1 ≤ al) (hc : 1 ≤ cnt) (h0 : 0 ≤ p.first) : runE fs p cnt al top = runAt al cnt top (runsP fs p) (-1) := by
  unfold runE runsP
  rw [runAt_freeS ha hc _ p.first (p.first + p.count) (-1) (Nat.le_refl _) h0 (by decide), if_neg (by simp)]
end Go.Proofs.Ytinpojleegfadaa
