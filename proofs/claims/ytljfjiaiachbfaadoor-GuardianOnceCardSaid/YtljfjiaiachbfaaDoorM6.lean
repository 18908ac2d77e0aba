/- What Recover reads of a journal that was cut, and what is counted while the clients repeat. -/
import Derived.Test.YtljfjiaiachbfaaDoorM5
set_option linter.unusedVariables false
set_option linter.unusedSimpArgs false
namespace Go.Proofs.YtljfjiaiachbfaaDoor
open Go Go.Sx Go.Sx.Gd
/-! ### What Recover reads of a journal that was cut -/
theorem valN_numB (n : Int) : ∀ c, valN (numB n c) = (n % 18446744073709551616).toNat % 256 ^ c
  | 0 => by simp [numB, valN, Nat.mod_one]
  | c + 1 => by
    rw [numB_succ, valN_snoc, valN_numB n c, numB_len, Nat.mod_pow_succ]
    congr 2
structure Fits (r : Req) : Prop where
  c0 : 0 ≤ r.client ∧ r.client ≤ 4294967295
  s0 : -9223372036854775808 ≤ r.seq ∧ r.seq ≤ 9223372036854775807
  a0 : -9223372036854775808 ≤ r.amount ∧ r.amount ≤ 9223372036854775807
  k0 : r.key.size ≤ 255
theorem i64_back {n : Int} (h : -9223372036854775808 ≤ n ∧ n ≤ 9223372036854775807) : IntKind.i64.wrap ((valN (numB n 8) : Nat) : Int) = n := by
  rw [valN_numB, show (256 : Nat) ^ 8 = 18446744073709551616 from rfl]
  unfold IntKind.wrap
  simp [IntKind.bits, IntKind.signed]
  split <;> omega
theorem i64_back4 {n : Int} (h : 0 ≤ n ∧ n ≤ 4294967295) : IntKind.i64.wrap ((valN (numB n 4) : Nat) : Int) = n := by
  rw [valN_numB, show (256 : Nat) ^ 4 = 4294967296 from rfl]
  unfold IntKind.wrap
  simp [IntKind.bits, IntKind.signed]
  split <;> omega
theorem ent_cat (r : Req) (y : List UInt8) : entB r ++ y = numB r.client 4 ++ (numB r.seq 8 ++ (numB r.amount 8 ++ ([UInt8.ofNat r.key.size] ++ (r.key.data.toList ++ (numB (sumB (bodyB r) : Nat) 4 ++ y))))) := by
  simp only [entB, bodyB, hdB, List.append_assoc]
theorem ent_20 (r : Req) (y : List UInt8) : (entB r ++ y)[20]? = some (UInt8.ofNat r.key.size) := by
  have e : entB r ++ y = hdB r ++ (UInt8.ofNat r.key.size :: (r.key.data.toList ++ (numB (sumB (bodyB r) : Nat) 4 ++ y))) := by
    simp only [entB, bodyB, List.append_assoc, List.cons_append, List.nil_append]
  rw [e, List.getElem?_append_right (by rw [hdB_len]; omega), hdB_len]; rfl
theorem ent_sz {r : Req} (h : Fits r) (y : List UInt8) : szAt (entB r ++ y) = 21 + r.key.size := by
  unfold szAt
  rw [ent_20]
  have := h.k0
  show 21 + (UInt8.ofNat r.key.size).toNat = _
  rw [UInt8.toNat_ofNat']; omega
theorem ent_req {r : Req} (h : Fits r) (y : List UInt8) : reqAt (entB r ++ y) = r := by
  have h21 : (entB r ++ y).drop 21 = r.key.data.toList ++ (numB (sumB (bodyB r) : Nat) 4 ++ y) := by
    rw [ent_cat]
    have e : numB r.client 4 ++ (numB r.seq 8 ++ (numB r.amount 8 ++ ([UInt8.ofNat r.key.size] ++ (r.key.data.toList ++ (numB (sumB (bodyB r) : Nat) 4 ++ y))))) = (numB r.client 4 ++ numB r.seq 8 ++ numB r.amount 8 ++ [UInt8.ofNat r.key.size]) ++ (r.key.data.toList ++ (numB (sumB (bodyB r) : Nat) 4 ++ y)) := by simp only [List.append_assoc]
    rw [e]
    exact List.drop_left' (by simp [numB_len])
  have h4 : (entB r ++ y).take 4 = numB r.client 4 := by rw [ent_cat]; exact List.take_left' (numB_len _ _)
  have d4 : (entB r ++ y).drop 4 = numB r.seq 8 ++ (numB r.amount 8 ++ ([UInt8.ofNat r.key.size] ++ (r.key.data.toList ++ (numB (sumB (bodyB r) : Nat) 4 ++ y)))) := by rw [ent_cat]; exact List.drop_left' (numB_len _ _)
  have d12 : (entB r ++ y).drop 12 = numB r.amount 8 ++ ([UInt8.ofNat r.key.size] ++ (r.key.data.toList ++ (numB (sumB (bodyB r) : Nat) 4 ++ y))) := by
    have : (entB r ++ y).drop 12 = ((entB r ++ y).drop 4).drop 8 := by rw [List.drop_drop]
    rw [this, d4]; exact List.drop_left' (numB_len _ _)
  unfold reqAt
  rw [ent_sz h, h21, h4, d4, d12, List.take_left' (numB_len _ _), List.take_left' (numB_len _ _), List.take_left' (by rw [Array.length_toList, Nat.add_sub_cancel_left]; rfl)]
  rw [i64_back4 h.c0, i64_back h.s0, i64_back h.a0]
theorem ent_ok {r : Req} (h : Fits r) (R : List UInt8) (m : Nat) (hok : okAt ((entB r ++ R).take m)) : (entB r).length ≤ m ∧ szAt ((entB r ++ R).take m) + 4 = (entB r).length ∧ reqAt ((entB r ++ R).take m) = r := by
  by_cases hm : (entB r).length ≤ m
  · have e : (entB r ++ R).take m = entB r ++ R.take (m - (entB r).length) := by
      rw [List.take_append, List.take_of_length_le hm]
    rw [e]
    exact ⟨hm, by rw [ent_sz h, entB_len]; omega, ent_req h _⟩
  · exfalso
    obtain ⟨h1, h2, _⟩ := hok
    rw [List.length_take] at h1 h2
    have h3 : szAt ((entB r ++ R).take m) = 21 + r.key.size := by
      unfold szAt
      rw [List.getElem?_take_of_lt (by omega), ent_20]
      have := h.k0
      show 21 + (UInt8.ofNat r.key.size).toNat = _
      rw [UInt8.toNat_ofNat']; omega
    rw [h3] at h2
    rw [entB_len] at hm
    omega
theorem runS_jr {L : List Req} (hL : ∀ i r, L[i]? = some r → doK (runS (L.take i)) r = 6) : ∀ i, i ≤ L.length → (runS (L.take i)).jr = (L.take i).flatMap entB
  | 0, _ => by simp [runS, srv0]
  | i + 1, hi => by
    obtain ⟨r, hr⟩ : ∃ r, L[i]? = some r := ⟨_, List.getElem?_eq_getElem (by omega)⟩
    have ih := runS_jr hL i (by omega)
    rw [← runS_succ hr]
    unfold doS
    rw [if_pos (hL i r hr)]
    show (runS (L.take i)).jr ++ entB r = _
    rw [ih, List.take_add_one, hr]
    simp
theorem recF_pre {L : List Req} (hL : ∀ i r, L[i]? = some r → doK (runS (L.take i)) r = 6 ∧ Fits r) (c : Nat) : ∀ (f i P : Nat), i ≤ L.length → P = ((L.take i).flatMap entB).length → P ≤ c →
    ∃ p, p ≤ L.length ∧ (recF f ((L.flatMap entB).take c) P (runS (L.take i))).1 = runS (L.take p)
  | 0, i, _, hi, _, _ => ⟨i, hi, rfl⟩
  | f + 1, i, P, hi, hP, hc => by
    have hb : ((L.flatMap entB).take c).drop P = ((L.drop i).flatMap entB).take (c - P) := by
      rw [List.drop_take]
      congr 1
      conv => lhs; rw [← List.take_append_drop i L, List.flatMap_append, hP]
      exact List.drop_left
    simp only [recF]
    rw [hb]
    by_cases hl : i = L.length
    · rw [if_neg]
      · exact ⟨i, hi, rfl⟩
      · rw [List.drop_of_length_le (by omega)]
        exact fun h => by have := h.1; simp at this
    · obtain ⟨r, hr⟩ : ∃ r, L[i]? = some r := ⟨_, List.getElem?_eq_getElem (by omega)⟩
      obtain ⟨h6, hf⟩ := hL i r hr
      have hd : L.drop i = r :: L.drop (i + 1) := by
        have := (List.getElem?_eq_some_iff.1 hr)
        obtain ⟨h1, h2⟩ := this
        rw [← h2, List.drop_eq_getElem_cons h1]
      rw [hd, List.flatMap_cons]
      split
      · rename_i hok
        obtain ⟨hm, hs, hq⟩ := ent_ok hf _ _ hok
        rw [hq, if_pos h6, runS_succ hr, hs]
        refine recF_pre hL c f (i + 1) _ (by omega) ?_ (by omega)
        rw [List.take_add_one, hr, List.flatMap_append, List.length_append, hP]
        simp
      · exact ⟨i, hi, rfl⟩
theorem recM_pre {L : List Req} (hL : ∀ i r, L[i]? = some r → doK (runS (L.take i)) r = 6 ∧ Fits r) (c : Nat) : ∃ p, p ≤ L.length ∧ (recM ((runS L).jr.take c)).1 = runS (L.take p) := by
  have hj := runS_jr (fun i r h => (hL i r h).1) L.length (Nat.le_refl _)
  rw [List.take_length] at hj
  rw [hj]
  exact recF_pre hL c _ 0 0 (Nat.zero_le _) (by simp) (Nat.zero_le _)
theorem onceR_fits {a : List Int} (ha : OkA a) {i : Nat} {m : Int} (hm : a[i]? = some m) : Fits (onceR i m) := by
  have h1 := ha.at hm
  have h2 := (List.getElem?_eq_some_iff.1 hm).1
  have h3 := ha.1
  refine ⟨?_, ?_, ?_, ?_⟩
  · show 0 ≤ ((i % 2 : Nat) : Int) ∧ ((i % 2 : Nat) : Int) ≤ _; omega
  · show _ ≤ ((i / 2 + 1 : Nat) : Int) ∧ ((i / 2 + 1 : Nat) : Int) ≤ _; omega
  · show _ ≤ m ∧ m ≤ _; omega
  · exact Nat.le_trans (key_len (onceKey_ok i)) (by decide)
theorem once_all {a : List Int} (ha : OkA a) (i : Nat) (r : Req) (h : (onceL a)[i]? = some r) : doK (runS ((onceL a).take i)) r = 6 ∧ Fits r := by
  obtain ⟨m, hm, rfl⟩ := onceL_at h
  exact ⟨((onc_run ha i (Nat.le_of_lt (List.getElem?_eq_some_iff.1 hm).1)).step ha hm (by unfold nN; omega)).1, onceR_fits ha hm⟩
theorem once_rec {a : List Int} (ha : OkA a) (c : Nat) : ∃ p, p ≤ a.length ∧ (recM ((runS (onceL a)).jr.take c)).1 = runS ((onceL a).take p) ∧ Onc (onceL a) (runS ((onceL a).take p)) (nN p) := by
  obtain ⟨p, hp, h⟩ := recM_pre (once_all ha) c
  rw [onceL_len] at hp
  exact ⟨p, hp, h, onc_run ha p hp⟩
/-! The clients repeat: client c has come to its place i; p requests were recovered. -/
def nR (len p c i : Nat) (x : Nat) : Nat := if x < c then nN len x else if x = c then max (nN p c) (nN i c) else nN p x
/-- A request that is not repeated leaves what is counted. -/
theorem nR_skip {len p c i x : Nat} (h : i % 2 ≠ c ∨ i / 2 + 1 ≤ nN p c) (hc : c < 2) (hx : x < 2) : nR len p c (i + 1) x = nR len p c i x := by
  unfold nR nN at *
  split
  · rfl
  · split
    · subst_vars; omega
    · rfl
theorem nR_at {len p c i : Nat} (h : i % 2 = c) (h2 : nN p c < i / 2 + 1) : nR len p c i (i % 2) = i / 2 := by
  unfold nR nN at *
  subst h
  rw [if_neg (by omega), if_pos rfl]; omega
theorem nR_again {len p c i : Nat} (h : i % 2 = c) (h2 : nN p c = i / 2 + 1) : nR len p c i (i % 2) = i / 2 + 1 := by
  unfold nR nN at *
  subst h
  rw [if_neg (by omega), if_pos rfl]; omega
theorem nR_step {len p c i x : Nat} (h : i % 2 = c) (h2 : nN p c < i / 2 + 1) (hx : x < 2) : nR len p c (i + 1) x = if x = i % 2 then nR len p c i x + 1 else nR len p c i x := by
  unfold nR nN at *
  subst h
  split
  · rw [if_neg (by omega)]
  · split
    · subst_vars; omega
    · rfl
theorem nR_zero {len p x : Nat} (hx : x < 2) : nR len p 0 0 x = nN p x := by
  unfold nR nN
  rw [if_neg (by omega)]
  split
  · subst_vars; omega
  · rfl
theorem nR_next {len p c x : Nat} (hp : p ≤ len) (hc : c < 2) (hx : x < 2) : nR len p (c + 1) 0 x = nR len p c len x := by
  unfold nR nN
  by_cases h1 : x < c
  · rw [if_pos h1, if_pos (by omega)]
  · by_cases h2 : x = c
    · rw [if_pos (by omega), if_neg h1, if_pos h2]; subst h2; omega
    · rw [if_neg (by omega), if_neg h1, if_neg h2]
      split
      · subst_vars; omega
      · rfl
theorem nR_last {len p x : Nat} (hx : x < 2) : nR len p 2 0 x = nN len x := by
  unfold nR; rw [if_pos hx]
end Go.Proofs.YtljfjiaiachbfaaDoor
