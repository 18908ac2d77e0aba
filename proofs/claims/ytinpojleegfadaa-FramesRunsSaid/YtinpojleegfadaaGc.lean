/- Plain laws on Alloc of the reference. -/
import Derived.Test.YtinpojleegfadaaGb
set_option linter.unusedVariables false
set_option linter.unusedSimpArgs false
namespace Go.Proofs.Ytinpojleegfadaa
open Go Go.Sx Go.Sx.Fr
def singQ (fs : List FrS) (top : Bool) (cnt : Int) : List PoolS → List Int → List Int
  | [], out => out
  | p :: l, out => singQ fs top cnt l (out ++ (singP fs top p).take (min (cnt - (out.length : Int)).toNat (singP fs top p).length))
theorem singQ_eq {ps : List PoolS} {fs : List FrS} {top : Bool} {cnt : Int} : ∀ {il : List Nat} {P : List PoolS} {out : List Int}, il.map (ps[·]?) = P.map some → singL ps fs top cnt il out = singQ fs top cnt P out
  | [], [], _, _ => rfl
  | [], p :: P, _, h => by simp at h
  | i :: il, [], _, h => by simp at h
  | i :: il, p :: P, out, h => by
    simp only [List.map_cons, List.cons.injEq] at h
    simp only [singL, singQ, h.1]
    exact singQ_eq h.2
theorem singQ_step {fs : List FrS} {top : Bool} {cnt : Int} {P : List PoolS} {i : Nat} {p : PoolS} {out : List Int} (h : P[i]? = some p) :
    singQ fs top cnt (P.drop i) out = singQ fs top cnt (P.drop (i + 1)) (out ++ (singP fs top p).take (min (cnt - (out.length : Int)).toNat (singP fs top p).length)) := by rw [drop_of h]; rfl
def cntQ (fs : List FrS) : List PoolS → Int
  | [] => 0
  | p :: l => ((freeL fs p).length : Int) + cntQ fs l
theorem cntQ_step {fs : List FrS} {P : List PoolS} {i : Nat} {p : PoolS} (h : P[i]? = some p) : cntQ fs (P.drop i) = ((freeL fs p).length : Int) + cntQ fs (P.drop (i + 1)) := by rw [drop_of h]; rfl
theorem cntQ_nonneg {fs : List FrS} : ∀ {P : List PoolS}, 0 ≤ cntQ fs P
  | [] => Int.le_refl _
  | p :: l => by have := cntQ_nonneg (fs := fs) (P := l); simp only [cntQ]; omega
theorem singP_length {fs : List FrS} {top : Bool} {p : PoolS} : (singP fs top p).length = (freeL fs p).length := by unfold singP; split; exact List.length_reverse; rfl
theorem singQ_len {fs : List FrS} {top : Bool} {cnt : Int} : ∀ {P : List PoolS} {out : List Int}, (out.length : Int) ≤ cnt → ((singQ fs top cnt P out).length : Int) = min cnt ((out.length : Int) + cntQ fs P)
  | [], out, h => by simp only [singQ, cntQ]; omega
  | p :: l, out, h => by
    have hl := cntQ_nonneg (fs := fs) (P := l)
    have e : ((out ++ (singP fs top p).take (min (cnt - (out.length : Int)).toNat (singP fs top p).length)).length : Int) = min cnt ((out.length : Int) + (freeL fs p).length) := by
      rw [List.length_append, List.length_take, singP_length]; omega
    simp only [singQ, cntQ]
    rw [singQ_len (by rw [e]; omega), e]
    omega
def runQ (fs : List FrS) (al cnt : Int) (top : Bool) : List PoolS → Option Int
  | [] => none
  | p :: l => if runE fs p cnt al top ≥ 0 then some (runE fs p cnt al top) else runQ fs al cnt top l
theorem runQ_step {fs : List FrS} {al cnt : Int} {top : Bool} {P : List PoolS} {i : Nat} {p : PoolS} (h : P[i]? = some p) :
    runQ fs al cnt top (P.drop i) = if runE fs p cnt al top ≥ 0 then some (runE fs p cnt al top) else runQ fs al cnt top (P.drop (i + 1)) := by rw [drop_of h]; rfl
theorem runQ_eq {ps : List PoolS} {fs : List FrS} {al cnt : Int} {top : Bool} (ha : 1 ≤ al) (hc : 1 ≤ cnt) : ∀ {il : List Nat} {P : List PoolS}, (∀ p ∈ P, 0 ≤ p.first) → il.map (ps[·]?) = P.map some → runV ps fs al cnt top il = runQ fs al cnt top P
  | [], [], _, _ => rfl
  | [], p :: P, _, h => by simp at h
  | i :: il, [], _, h => by simp at h
  | i :: il, p :: P, hp, h => by
    simp only [List.map_cons, List.cons.injEq] at h
    simp only [runV, runQ, h.1]
    rw [runE_eq ha hc (hp p (by simp)), runQ_eq ha hc (fun q hq => hp q (by simp [hq])) h.2]
theorem askP_ok {T : TabS} {fs : List FrS} (ht : TabOk T fs) {nl : List ByteArray} (he : askE T.pools nl = 0) {i : Nat} {p : PoolS} (h : (askP T.pools nl)[i]? = some p) :
    0 ≤ p.first ∧ 1 ≤ p.count ∧ p.first + p.count ≤ 4096 ∧ ∀ n, p.first ≤ n → n < p.first + p.count → ∃ f, getF fs n = some f := by
  obtain ⟨k, _, hk⟩ := askP_get he h
  have := ht.ps k p hk
  exact ⟨this.1, this.2.1, this.2.2, fun n h1 h2 => (ht.cov k p n hk h1 h2).imp fun _ h => h.1⟩
theorem alloc_34 {ps : List PoolS} {fs : List FrS} {r : ReqS} (h : r.cnt < 1 ∨ r.cnt > 4096) : allocE ps fs r = 34 ∧ allocO ps fs r = [] := by
  have : allocE ps fs r = 34 := by unfold allocE; rw [if_pos h]
  exact ⟨this, by unfold allocO; rw [if_neg (by rw [this]; decide)]⟩
theorem alloc_14 {ps : List PoolS} {fs : List FrS} {r : ReqS} (h : ¬ (r.cnt < 1 ∨ r.cnt > 4096)) (h2 : badAl r.al r.cg) : allocE ps fs r = 14 ∧ allocO ps fs r = [] := by
  have : allocE ps fs r = 14 := by unfold allocE; rw [if_neg h, if_pos h2]
  exact ⟨this, by unfold allocO; rw [if_neg (by rw [this]; decide)]⟩
theorem alloc_ask {ps : List PoolS} {fs : List FrS} {r : ReqS} (h : ¬ (r.cnt < 1 ∨ r.cnt > 4096)) (h2 : ¬ badAl r.al r.cg) (h3 : ¬ askE ps r.names = 0) : allocE ps fs r = askE ps r.names ∧ allocO ps fs r = [] := by
  have : allocE ps fs r = askE ps r.names := by unfold allocE; rw [if_neg h, if_neg h2, if_pos h3]
  exact ⟨this, by unfold allocO; rw [if_neg (by rw [this]; exact h3)]⟩
theorem al_ge {al : Int} {cg : Bool} (h : ¬ badAl al cg) : 1 ≤ al := by unfold badAl at h; omega
theorem foundL_cg {T : TabS} {fs : List FrS} (ht : TabOk T fs) {r : ReqS} (h : ¬ (r.cnt < 1 ∨ r.cnt > 4096)) (h2 : ¬ badAl r.al r.cg) (h3 : askE T.pools r.names = 0) (hcg : r.cg = true) : foundL T.pools fs r = runO r.cnt (runQ fs r.al r.cnt r.top (askP T.pools r.names)) := by
  unfold foundL
  rw [if_pos hcg, runQ_eq (al_ge h2) (by omega) (fun p hp => by obtain ⟨i, hi⟩ := List.getElem?_of_mem hp; exact (askP_ok ht h3 hi).1) (askP_askL h3)]
theorem alloc_cg {T : TabS} {fs : List FrS} (ht : TabOk T fs) {r : ReqS} (h : ¬ (r.cnt < 1 ∨ r.cnt > 4096)) (h2 : ¬ badAl r.al r.cg) (h3 : askE T.pools r.names = 0) (hcg : r.cg = true) {a : Int} (hq : runQ fs r.al r.cnt r.top (askP T.pools r.names) = some a) :
    allocE T.pools fs r = 0 ∧ allocO T.pools fs r = rangeI a r.cnt.toNat ∧ foundL T.pools fs r = rangeI a r.cnt.toNat := by
  have hf : foundL T.pools fs r = rangeI a r.cnt.toNat := by rw [foundL_cg ht h h2 h3 hcg, hq]; rfl
  have : allocE T.pools fs r = 0 := by unfold allocE; rw [if_neg h, if_neg h2, if_neg (by simpa using h3), if_neg (by rw [hf, rangeI_len]; omega)]
  exact ⟨this, by unfold allocO; rw [if_pos this, hf], hf⟩
theorem alloc_cg0 {T : TabS} {fs : List FrS} (ht : TabOk T fs) {r : ReqS} (h : ¬ (r.cnt < 1 ∨ r.cnt > 4096)) (h2 : ¬ badAl r.al r.cg) (h3 : askE T.pools r.names = 0) (hcg : r.cg = true) (hq : runQ fs r.al r.cnt r.top (askP T.pools r.names) = none) :
    allocE T.pools fs r = 23 ∧ allocO T.pools fs r = [] := by
  have hf : foundL T.pools fs r = [] := by rw [foundL_cg ht h h2 h3 hcg, hq]; rfl
  have : allocE T.pools fs r = 23 := by unfold allocE; rw [if_neg h, if_neg h2, if_neg (by simpa using h3), if_pos (by rw [hf]; simp; omega)]
  exact ⟨this, by unfold allocO; rw [if_neg (by rw [this]; decide)]⟩
theorem foundL_sg {T : TabS} {fs : List FrS} {r : ReqS} (h3 : askE T.pools r.names = 0) (hcg : ¬ r.cg = true) : foundL T.pools fs r = singQ fs r.top r.cnt (askP T.pools r.names) [] := by
  unfold foundL
  rw [if_neg hcg, singQ_eq (askP_askL h3)]
theorem alloc_sg {T : TabS} {fs : List FrS} {r : ReqS} (h : ¬ (r.cnt < 1 ∨ r.cnt > 4096)) (h2 : ¬ badAl r.al r.cg) (h3 : askE T.pools r.names = 0) (hcg : ¬ r.cg = true) (hq : ¬ cntQ fs (askP T.pools r.names) < r.cnt) :
    allocE T.pools fs r = 0 ∧ allocO T.pools fs r = singQ fs r.top r.cnt (askP T.pools r.names) [] := by
  have hl := singQ_len (fs := fs) (top := r.top) (cnt := r.cnt) (P := askP T.pools r.names) (out := []) (by simp; omega)
  have hf := foundL_sg (fs := fs) h3 hcg
  have : allocE T.pools fs r = 0 := by unfold allocE; rw [if_neg h, if_neg h2, if_neg (by simpa using h3), if_neg (by rw [hf, hl]; simp only [List.length_nil]; omega)]
  exact ⟨this, by unfold allocO; rw [if_pos this, hf]⟩
theorem alloc_sg0 {T : TabS} {fs : List FrS} {r : ReqS} (h : ¬ (r.cnt < 1 ∨ r.cnt > 4096)) (h2 : ¬ badAl r.al r.cg) (h3 : askE T.pools r.names = 0) (hcg : ¬ r.cg = true) (hq : cntQ fs (askP T.pools r.names) < r.cnt) :
    allocE T.pools fs r = 23 ∧ allocO T.pools fs r = [] := by
  have hl := singQ_len (fs := fs) (top := r.top) (cnt := r.cnt) (P := askP T.pools r.names) (out := []) (by simp; omega)
  have hf := foundL_sg (fs := fs) h3 hcg
  have : allocE T.pools fs r = 23 := by unfold allocE; rw [if_neg h, if_neg h2, if_neg (by simpa using h3), if_pos (by rw [hf, hl]; simp only [List.length_nil]; omega)]
  exact ⟨this, by unfold allocO; rw [if_neg (by rw [this]; decide)]⟩
/-- How many of the first frames are free. -/
def freeC (fs : List FrS) (a : Int) (k : Nat) : Int := (((rangeI a k).filter (freeB fs)).length : Int)
theorem freeC_step {fs : List FrS} {a n : Int} (h : a ≤ n) : freeC fs a (n + 1 - a).toNat = freeC fs a (n - a).toNat + (if freeB fs n = true then 1 else 0) := by
  unfold freeC
  rw [rangeI_step h, List.filter_append, List.length_append]
  by_cases hb : freeB fs n = true
  · rw [if_pos hb, List.filter_cons_of_pos hb]; simp
  · rw [if_neg hb, List.filter_cons_of_neg hb]; simp
theorem freeC_end {fs : List FrS} {p : PoolS} : freeC fs p.first p.count.toNat = ((freeL fs p).length : Int) := by unfold freeC; rw [freeL_eq]
theorem freeC_le {fs : List FrS} {a : Int} {k : Nat} : 0 ≤ freeC fs a k ∧ freeC fs a k ≤ k := by
  unfold freeC
  have := List.length_filter_le (freeB fs) (rangeI a k)
  rw [rangeI_len] at this; omega
theorem freeL_le {fs : List FrS} {p : PoolS} : (freeL fs p).length ≤ p.count.toNat := by
  rw [freeL_eq]; have := List.length_filter_le (freeB fs) (rangeI p.first p.count.toNat); rwa [rangeI_len] at this
theorem singP_nonneg {fs : List FrS} {p : PoolS} {top : Bool} (h0 : 0 ≤ p.first) {j : Nat} {n : Int} (h : (singP fs top p)[j]? = some n) : 0 ≤ n ∧ inP p n := by
  have hn := List.mem_of_getElem? h
  have : n ∈ freeL fs p := by unfold singP at hn; split at hn; simpa using hn; exact hn
  have := mem_freeL this
  exact ⟨by omega, this.1, this.2.1⟩
end Go.Proofs.Ytinpojleegfadaa
