/- What a server has executed of two clients' requests, as plain laws. -/
import Derived.Test.YtljfjiaiachbfaaDoorM4
import Derived.Test.YtljfjiaiachbfaaDoorA7
set_option linter.unusedVariables false
set_option linter.unusedSimpArgs false
namespace Go.Proofs.YtljfjiaiachbfaaDoor
open Go Go.Sx Go.Sx.Gd
/-! ### What a server has executed of two clients' requests -/
theorem accO_set (l : List (ByteArray × Int)) (k : ByteArray) (v : Int) (k' : ByteArray) : accO (accSet l k v) k' = if k' = k then some v else accO l k' := by
  induction l with
  | nil => simp [accSet, accO]
  | cons x l ih =>
    simp only [accSet]
    by_cases h : k = x.1
    · rw [if_pos h]; simp only [accO]
      by_cases h2 : k' = k
      · rw [if_pos h2, if_pos h2]
      · rw [if_neg h2, if_neg h2, if_neg (by rw [← h]; exact h2)]
    · rw [if_neg h]; simp only [accO]
      by_cases h2 : k' = x.1
      · rw [if_pos h2, if_pos h2, if_neg (by rw [h2]; exact fun e => h e.symm)]
      · rw [if_neg h2, if_neg h2, ih]
theorem cliO_set (l : List (Req × Int)) (r : Req) (v : Int) (n : Int) : cliO (cliSet l r v) n = if n = r.client then some (r, v) else cliO l n := by
  induction l with
  | nil => simp [cliSet, cliO]
  | cons x l ih =>
    simp only [cliSet]
    by_cases h : r.client = x.1.client
    · rw [if_pos h]; simp only [cliO]
      by_cases h2 : n = r.client
      · rw [if_pos h2, if_pos h2]
      · rw [if_neg h2, if_neg h2, if_neg (by rw [← h]; exact h2)]
    · rw [if_neg h]; simp only [cliO]
      by_cases h2 : n = x.1.client
      · rw [if_pos h2, if_pos h2, if_neg (by rw [h2]; exact fun e => h e.symm)]
      · rw [if_neg h2, if_neg h2, ih]
theorem sum_upd {α : Type} (f g : α → Int) : ∀ (L : List α) (i : Nat) (x : α), L[i]? = some x → (∀ j y, j ≠ i → L[j]? = some y → g y = f y) → (L.map g).sum = (L.map f).sum + (g x - f x)
  | [], _, _, h, _ => by simp at h
  | y :: L, 0, x, h, hfg => by
    have hy : y = x := by simpa using h
    subst hy
    have : L.map g = L.map f := List.map_congr_left fun z hz => by
      obtain ⟨j, hj⟩ := List.getElem?_of_mem hz
      exact hfg (j + 1) z (by omega) (by simpa using hj)
    simp only [List.map_cons, List.sum_cons, this]; omega
  | y :: L, i + 1, x, h, hfg => by
    have h1 := sum_upd f g L i x (by simpa using h) (fun j z hj hz => hfg (j + 1) z (by omega) (by simpa using hz))
    have h2 := hfg 0 y (by omega) (by simp)
    simp only [List.map_cons, List.sum_cons, h1, h2]; omega
theorem sum_bound {α : Type} (f : α → Int) (B : Int) : ∀ (L : List α), (∀ y ∈ L, -B ≤ f y ∧ f y ≤ B) → -(B * L.length) ≤ (L.map f).sum ∧ (L.map f).sum ≤ B * L.length
  | [], _ => by simp
  | y :: L, h => by
    have h1 := sum_bound f B L (fun z hz => h z (by simp [hz]))
    have h2 := h y (by simp)
    simp only [List.map_cons, List.sum_cons, List.length_cons]
    rw [show B * ((L.length + 1 : Nat) : Int) = B * L.length + B by rw [Int.natCast_add, Int.mul_add]; simp]
    omega
def onceKey (i : Nat) : ByteArray := if i % 3 = 0 then ⟨#[97]⟩ else if i % 3 = 1 then ⟨#[98]⟩ else ⟨#[99]⟩
def onceR (i : Nat) (n : Int) : Req := ⟨((i % 2 : Nat) : Int), ((i / 2 + 1 : Nat) : Int), onceKey i, n⟩
def onceL (a : List Int) : List Req := a.mapIdx onceR
theorem onceL_len (a : List Int) : (onceL a).length = a.length := by simp [onceL]
theorem onceL_at {a : List Int} {i : Nat} {r : Req} (h : (onceL a)[i]? = some r) : ∃ n, a[i]? = some n ∧ r = onceR i n := by
  unfold onceL at h
  rw [List.getElem?_mapIdx] at h
  obtain ⟨n, h1, h2⟩ := Option.map_eq_some_iff.1 h
  exact ⟨n, h1, h2.symm⟩
theorem onceL_get {a : List Int} {i : Nat} {n : Int} (h : a[i]? = some n) : (onceL a)[i]? = some (onceR i n) := by
  unfold onceL
  rw [List.getElem?_mapIdx, h]; rfl
def OkA (a : List Int) : Prop := a.length ≤ 60 ∧ ∀ n ∈ a, -32768 ≤ n ∧ n ≤ 32767
theorem OkA.at {a : List Int} (h : OkA a) {i : Nat} {n : Int} (hn : a[i]? = some n) : -32768 ≤ n ∧ n ≤ 32767 := h.2 n (List.mem_of_getElem? hn)
def tot (L : List Req) (n : Nat → Nat) (k : ByteArray) : Int := (L.map fun r => if r.key = k ∧ r.seq ≤ ((n r.client.toNat : Nat) : Int) then r.amount else 0).sum
structure Onc (L : List Req) (t : Srv) (n : Nat → Nat) : Prop where
  ok : SrvOk t
  acc : ∀ k, accV t.acc k = tot L n k
  cnt : t.cnt = n 0 + n 1
  le : ∀ c, c < 2 → n c ≤ 60
  last : ∀ c : Nat, c < 2 → (lastS t (c : Int)).1.seq = n c
  req : ∀ c : Nat, c < 2 → 0 < n c → L[2 * (n c - 1) + c]? = some (lastS t (c : Int)).1
theorem onceR_client (i : Nat) (n : Int) : (onceR i n).client.toNat = i % 2 := by simp only [onceR, Int.toNat_natCast]
theorem Onc.congr {a : List Int} {t : Srv} {n n' : Nat → Nat} (h : Onc (onceL a) t n) (hn : ∀ c, c < 2 → n' c = n c) : Onc (onceL a) t n' := by
  refine ⟨h.ok, fun k => ?_, by rw [hn 0 (by omega), hn 1 (by omega)]; exact h.cnt, fun c hc => by rw [hn c hc]; exact h.le c hc, fun c hc => by rw [hn c hc]; exact h.last c hc, fun c hc h0 => by rw [hn c hc] at h0 ⊢; exact h.req c hc h0⟩
  rw [h.acc k]
  unfold tot
  congr 1
  refine List.map_congr_left fun r hr => ?_
  obtain ⟨j, hj⟩ := List.getElem?_of_mem hr
  obtain ⟨m, _, rfl⟩ := onceL_at hj
  simp only [onceR_client]
  rw [hn (j % 2) (by omega)]
theorem onceKey_ok (i : Nat) : namedE (onceKey i) = 0 := by
  unfold onceKey
  split
  · decide
  · split <;> decide
theorem onceR_range {a : List Int} (ha : OkA a) {i : Nat} {m : Int} (hm : a[i]? = some m) : ¬ rangeBad (onceR i m) := by
  have h1 := ha.at hm
  have h2 := (List.getElem?_eq_some_iff.1 hm).1
  have h3 := ha.1
  unfold rangeBad onceR
  simp only []
  omega
theorem Onc.bound {a : List Int} {t : Srv} {n : Nat → Nat} (ha : OkA a) (h : Onc (onceL a) t n) (k : ByteArray) : -1966080 ≤ accV t.acc k ∧ accV t.acc k ≤ 1966080 := by
  rw [h.acc k]
  have hb := sum_bound (fun r : Req => if r.key = k ∧ r.seq ≤ ((n r.client.toNat : Nat) : Int) then r.amount else 0) 32768 (onceL a) (fun r hr => by
    obtain ⟨j, hj⟩ := List.getElem?_of_mem hr
    obtain ⟨m, hm, rfl⟩ := onceL_at hj
    have := ha.at hm
    split
    · show -32768 ≤ m ∧ m ≤ 32768
      omega
    · omega)
  rw [onceL_len] at hb
  have := ha.1
  unfold tot
  omega
/-- The next request of a client is executed. -/
theorem Onc.step {a : List Int} {t : Srv} {n : Nat → Nat} (ha : OkA a) (h : Onc (onceL a) t n) {i : Nat} {m : Int} (hm : a[i]? = some m) (hi : n (i % 2) = i / 2) :
    doK t (onceR i m) = 6 ∧ Onc (onceL a) (doS t (onceR i m)) (fun c => if c = i % 2 then n c + 1 else n c) := by
  have hlen := (List.getElem?_eq_some_iff.1 hm).1
  have ha1 := ha.1
  have hm1 := ha.at hm
  have hb := h.bound ha (onceKey i)
  have hl := h.last (i % 2) (by omega)
  have hsq : (onceR i m).seq = ((i / 2 + 1 : Nat) : Int) := rfl
  have hcl : (onceR i m).client = ((i % 2 : Nat) : Int) := rfl
  have hnv : newV t (onceR i m) = accV t.acc (onceKey i) + m := rfl
  have hk : doK t (onceR i m) = 6 := by
    unfold doK
    rw [if_neg (onceR_range ha hm), if_neg (by rw [show (onceR i m).key = onceKey i from rfl, onceKey_ok]; decide), if_neg (by rw [hcl, hsq, hl, hi]; omega), if_neg (by rw [hcl, hsq, hl, hi]; omega), if_neg (by rw [hcl, hsq, hl, hi]; omega)]
    rw [if_neg]
    unfold valBad
    rw [hnv, h.cnt]
    have := h.le 0 (by omega); have := h.le 1 (by omega)
    omega
  refine ⟨hk, ?_⟩
  have hlast : ∀ c : Nat, lastS (exS t (onceR i m)) (c : Int) = if (c : Int) = (onceR i m).client then (onceR i m, newV t (onceR i m)) else lastS t (c : Int) := by
    intro c
    show (cliO (cliSet t.cli (onceR i m) (newV t (onceR i m))) (c : Int)).getD (req0, 0) = _
    rw [cliO_set]
    split <;> rfl
  unfold doS
  rw [if_pos hk]
  refine ⟨?_, ?_, ?_, ?_, ?_, ?_⟩
  · have := doS_ok h.ok (onceR i m); unfold doS at this; rwa [if_pos hk] at this
  · intro k
    have e1 : accV (exS t (onceR i m)).acc k = accV t.acc k + (if k = onceKey i then m else 0) := by
      show (accO (accSet t.acc (onceKey i) (newV t (onceR i m))) k).getD 0 = _
      rw [accO_set]
      by_cases hk' : k = onceKey i
      · rw [if_pos hk', if_pos hk', hnv, hk']; rfl
      · rw [if_neg hk', if_neg hk', Int.add_zero]; rfl
    rw [e1, h.acc k]
    unfold tot
    have e2 := sum_upd (fun r : Req => if r.key = k ∧ r.seq ≤ ((n r.client.toNat : Nat) : Int) then r.amount else 0)
      (fun r : Req => if r.key = k ∧ r.seq ≤ (((if r.client.toNat = i % 2 then n r.client.toNat + 1 else n r.client.toNat) : Nat) : Int) then r.amount else 0) (onceL a) i (onceR i m) (onceL_get hm) (fun j y hj hy => by
        obtain ⟨mj, _, rfl⟩ := onceL_at hy
        simp only [onceR_client]
        have e3 : ((onceR j mj).seq ≤ (((if j % 2 = i % 2 then n (j % 2) + 1 else n (j % 2)) : Nat) : Int)) ↔ ((onceR j mj).seq ≤ ((n (j % 2) : Nat) : Int)) := by
          show (((j / 2 + 1 : Nat) : Int) ≤ _) ↔ (((j / 2 + 1 : Nat) : Int) ≤ _)
          by_cases hc : j % 2 = i % 2
          · rw [if_pos hc, hc, hi]; omega
          · rw [if_neg hc]
        simp only [e3])
    rw [e2]
    congr 1
    simp only [onceR_client, if_true, hi]
    rw [show (onceR i m).key = onceKey i from rfl, hsq, show (onceR i m).amount = m from rfl]
    by_cases hk' : k = onceKey i
    · rw [if_pos hk', if_pos ⟨hk'.symm, by omega⟩, if_neg (by omega)]; omega
    · rw [if_neg hk', if_neg (fun e => hk' e.1.symm), if_neg (fun e => hk' e.1.symm)]; omega
  · show t.cnt + 1 = _
    rw [h.cnt]
    rcases Nat.mod_two_eq_zero_or_one i with e | e <;> rw [e] <;> simp <;> omega
  · intro c hc
    have := h.le c hc
    show (if c = i % 2 then n c + 1 else n c) ≤ 60
    split
    · subst_vars; omega
    · omega
  · intro c hc
    rw [hlast c]
    show _ = (((if c = i % 2 then n c + 1 else n c) : Nat) : Int)
    by_cases hc' : c = i % 2
    · rw [if_pos (by rw [hcl, hc']), if_pos hc', hc', hi]; rfl
    · rw [if_neg (by rw [hcl]; omega), if_neg hc']; exact h.last c hc
  · intro c hc h0
    have h0 : 0 < (if c = i % 2 then n c + 1 else n c) := h0
    rw [hlast c]
    show (onceL a)[2 * ((if c = i % 2 then n c + 1 else n c) - 1) + c]? = _
    by_cases hc' : c = i % 2
    · rw [if_pos hc', if_pos (by rw [hcl, hc']), hc', hi, show 2 * (i / 2 + 1 - 1) + i % 2 = i by omega]
      exact onceL_get hm
    · rw [if_neg hc'] at h0
      rw [if_neg hc', if_neg (by rw [hcl]; omega)]
      exact h.req c hc h0
/-- The last request of a client, repeated. -/
theorem Onc.again {a : List Int} {t : Srv} {n : Nat → Nat} (ha : OkA a) (h : Onc (onceL a) t n) {i : Nat} {m : Int} (hm : a[i]? = some m) (hi : n (i % 2) = i / 2 + 1) : doK t (onceR i m) = 4 := by
  have hl := h.last (i % 2) (by omega)
  have hq := h.req (i % 2) (by omega) (by omega)
  rw [hi, show 2 * (i / 2 + 1 - 1) + i % 2 = i by omega, onceL_get hm] at hq
  have hq := Option.some.inj hq
  have hsq : (onceR i m).seq = ((i / 2 + 1 : Nat) : Int) := rfl
  have hcl : (onceR i m).client = ((i % 2 : Nat) : Int) := rfl
  unfold doK
  rw [if_neg (onceR_range ha hm), if_neg (by rw [show (onceR i m).key = onceKey i from rfl, onceKey_ok]; decide), if_neg (by rw [hcl, hsq, hl, hi]; omega), if_neg (by rw [hcl, ← hq]; simp), if_pos (by rw [hcl, hsq, hl, hi])]
def nN (p c : Nat) : Nat := (p + 1 - c) / 2
theorem onc0 (a : List Int) : Onc (onceL a) srv0 (fun _ => 0) := by
  refine ⟨srv0_ok, fun k => ?_, rfl, fun _ _ => by omega, fun c _ => rfl, fun c _ h => by omega⟩
  have : ∀ L : List Int, L.sum = 0 ∨ ∃ x ∈ L, x ≠ 0 := by
    intro L
    induction L with
    | nil => exact .inl rfl
    | cons x L ih =>
      by_cases hx : x = 0
      · rcases ih with h | ⟨y, hy, h⟩
        · left; rw [List.sum_cons, hx, h]; rfl
        · exact .inr ⟨y, by simp [hy], h⟩
      · exact .inr ⟨x, by simp, hx⟩
  show 0 = tot (onceL a) (fun _ => 0) k
  unfold tot
  rcases this ((onceL a).map fun r => if r.key = k ∧ r.seq ≤ ((0 : Nat) : Int) then r.amount else 0) with h | ⟨x, hx, h⟩
  · exact h.symm
  · obtain ⟨r, hr, rfl⟩ := List.mem_map.1 hx
    obtain ⟨j, hj⟩ := List.getElem?_of_mem hr
    obtain ⟨m, hm, rfl⟩ := onceL_at hj
    exact absurd (if_neg (fun e => by have : ((j / 2 + 1 : Nat) : Int) ≤ ((0 : Nat) : Int) := e.2; omega)) h
theorem onc_run {a : List Int} (ha : OkA a) : ∀ p, p ≤ a.length → Onc (onceL a) (runS ((onceL a).take p)) (nN p)
  | 0, _ => (onc0 a).congr fun c hc => by unfold nN; omega
  | p + 1, hp => by
    have ih := onc_run ha p (by omega)
    obtain ⟨m, hm⟩ : ∃ m, a[p]? = some m := ⟨_, List.getElem?_eq_getElem (by omega)⟩
    have h1 := (ih.step ha hm (by unfold nN; omega)).2
    rw [runS_succ (onceL_get hm)] at h1
    refine h1.congr fun c hc => ?_
    simp only [nN]
    split <;> omega
end Go.Proofs.YtljfjiaiachbfaaDoor
