/- The table of frames as a Lean structure, and what its methods answer, with plain laws on the answers. -/
import Derived.Test.YtinpojleegfadaaSu
set_option linter.unusedVariables false
set_option linter.unusedSimpArgs false
namespace Go.Sx.Fr
open Go
/-- A pool, of the program's or the reference's. -/
structure PoolS where
  name : ByteArray
  first : Int
  count : Int
  general : Bool
  keep : Bool
def encPool (p : PoolS) : List Value := [.string p.name, .int .i64 p.first, .int .i64 p.count, .bool p.general, .bool p.keep]
def encInt (n : Int) : List Value := [.int .i64 n]
def encNat (n : Nat) : List Value := [.int .i64 (n : Int)]
def fewB (xs : List PoolS) : Bool := xs.all (fun p => decide (p.name.size ≤ 200)) && decide (xs.length ≤ 20)

/-! ### The table -/
structure FrS where
  n : Int
  b : Nat
  c : Nat
  refs : Int
  pool : Nat
  data : Option (Nat × List UInt8)
def FrS.dp (f : FrS) : Option Addr := f.data.map fun p => ⟨p.1, 0, none⟩
def FrS.o (f : FrS) : Obj := .cells #[.int .i64 f.refs, .int .i64 (f.pool : Int), .pointer f.dp] 70
def pgD (d : Option (Nat × List UInt8)) : List Blk := match d with | none => [] | some p => [(p.1, .cells (p.2.map Extern.Stop.cell).toArray 72)]
def pgB (f : FrS) : List Blk := pgD f.data
def FrS.blk (f : FrS) : List Blk := (f.b, f.o) :: pgB f
def frB (fs : List FrS) : List Blk := fs.flatMap FrS.blk
def FrS.ent (f : FrS) : Int × Value × Nat := (f.n, .pointer (some ⟨f.b, 0, none⟩), f.c)
def getF : List FrS → Int → Option FrS
  | [], _ => none
  | f :: l, n => if n = f.n then some f else getF l n
def updF : List FrS → Int → (FrS → FrS) → List FrS
  | [], _, _ => []
  | f :: l, n, g => if n = f.n then g f :: l else f :: updF l n g
theorem frB_append (a b : List FrS) : frB (a ++ b) = frB a ++ frB b := by simp [frB]
theorem fr_open {fs : List FrS} {n : Int} {f : FrS} (h : getF fs n = some f) :
    f.n = n ∧ ∃ A B : List Blk, frB fs = A ++ ((f.b, f.o) :: pgB f ++ B) ∧ ∀ g, frB (updF fs n g) = A ++ (((g f).b, (g f).o) :: pgB (g f) ++ B) := by
  induction fs with
  | nil => cases h
  | cons x l ih =>
    simp only [getF] at h
    split at h
    · rename_i hn
      cases h
      exact ⟨hn.symm, [], frB l, by simp [frB, FrS.blk], fun g => by simp [updF, hn, frB, FrS.blk]⟩
    · rename_i hn
      obtain ⟨h0, A, B, h1, h2⟩ := ih h
      refine ⟨h0, x.blk ++ A, B, ?_, fun g => ?_⟩
      · rw [show frB (x :: l) = x.blk ++ frB l from rfl, h1]; simp
      · simp only [updF, if_neg hn]
        rw [show frB (x :: updF l n g) = x.blk ++ frB (updF l n g) from rfl, h2]; simp
theorem getF_updF (fs : List FrS) (n : Int) (g : FrS → FrS) (hg : ∀ f, (g f).n = f.n) (m : Int) : getF (updF fs n g) m = if m = n then (getF fs n).map g else getF fs m := by
  induction fs with
  | nil => simp [updF, getF]
  | cons x l ih =>
    simp only [updF]
    by_cases hn : n = x.n
    · rw [if_pos hn]
      simp only [getF, hg]
      by_cases hm : m = n
      · subst hm; simp [hn]
      · have : m ≠ x.n := fun e => hm (e.trans hn.symm)
        simp [hm, this]
    · rw [if_neg hn]
      simp only [getF]
      by_cases hm : m = x.n
      · have : m ≠ n := fun e => hn (e.symm.trans hm)
        simp [hm, Ne.symm hn]
      · rw [if_neg hm, ih]
        by_cases hmn : m = n
        · simp [hmn, hn]
        · rw [if_neg hmn, if_neg hmn, if_neg hm]
theorem ent_updF (fs : List FrS) (n : Int) (g : FrS → FrS) (hg : ∀ f, (g f).ent = f.ent) : (updF fs n g).map FrS.ent = fs.map FrS.ent := by
  induction fs with
  | nil => rfl
  | cons x l ih => simp only [updF]; split <;> simp [hg, ih]
def RefsOk (fs : List FrS) : Prop := ∀ n f, getF fs n = some f → 0 ≤ f.refs ∧ f.refs ≤ 60000
theorem lk_fr (fs : List FrS) (n : Int) : lkM (fs.map FrS.ent) n = (getF fs n).map fun f => .pointer (some ⟨f.b, 0, none⟩) := by
  induction fs with
  | nil => rfl
  | cons x l ih => simp only [List.map_cons, lkM, getF, FrS.ent]; split <;> simp_all

/-- What stays of a table: its blocks, its pools, its maps. -/
structure TabS where
  tb : Nat
  pb : Nat
  pc : Nat
  pr : List Value
  pools : List PoolS
  ix : Nat
  il : List (ByteArray × Value × Nat)
  ic : Nat
  fm : Nat
  es : List (Int × Value × Nat)
  fc : Nat
def tabI (T : TabS) (fs : List FrS) : Items :=
  [[(T.tb, .cells #[.slice (some ⟨T.pb, 0, none⟩) T.pools.length T.pc, .map (some T.ix), .map (some T.fm)] 63)], [(T.pb, .cells (arr encPool T.pools T.pr) 57)],
   [(T.ix, .map (mkM Value.string T.il) T.ic)], [(T.fm, .map (mkM (Value.int .i64) T.es) T.fc)], frB fs]
theorem TabS.lk {T : TabS} {fs : List FrS} (h : T.es = fs.map FrS.ent) (n : Int) : (lkM T.es n).getD (.pointer none) = .pointer ((getF fs n).map fun f => ⟨f.b, 0, none⟩) := by
  rw [h, lk_fr]; cases getF fs n <;> rfl
theorem TabS.lk0 {T : TabS} {fs : List FrS} (h : T.es = fs.map FrS.ent) {n : Int} (hg : getF fs n = none) : (lkM T.es n).getD (.pointer none) = .pointer none := by rw [TabS.lk h, hg]; rfl
end Go.Sx.Fr
namespace Go.Sx.Fr
open Go
theorem TabS.lk1 {T : TabS} {fs : List FrS} (h : T.es = fs.map FrS.ent) {n : Int} {f : FrS} (hg : getF fs n = some f) : (lkM T.es n).getD (.pointer none) = .pointer (some ⟨f.b, 0, none⟩) := by rw [TabS.lk h, hg]; rfl
/-- 'find'. -/
def findE (fs : List FrS) (n : Int) (free : Bool) : Int := match getF fs n with
  | none => 34
  | some f => if f.refs = 0 ∧ free = false then 35 else 0
def findV (fs : List FrS) (n : Int) (free : Bool) : Value := match getF fs n with
  | none => .tuple #[.pointer none, .int .i64 34]
  | some f => if f.refs = 0 ∧ free = false then .tuple #[.pointer none, .int .i64 35] else .tuple #[.pointer (some ⟨f.b, 0, none⟩), .int .i64 0]
theorem findV_cases (fs : List FrS) (n : Int) (free : Bool) : (findE fs n free ≠ 0 ∧ findV fs n free = .tuple #[.pointer none, .int .i64 (findE fs n free)]) ∨
    (findE fs n free = 0 ∧ ∃ f, getF fs n = some f ∧ (f.refs = 0 → free = true) ∧ findV fs n free = .tuple #[.pointer (some ⟨f.b, 0, none⟩), .int .i64 0]) := by
  unfold findE findV
  cases hg : getF fs n with
  | none => simp
  | some f =>
    by_cases h : f.refs = 0 ∧ free = false
    · simp [h]
    · simp only [h, if_false]
      right; refine ⟨trivial, f, rfl, fun h0 => ?_, rfl⟩
      cases free <;> simp_all
def setRefs (k : Int) (f : FrS) : FrS := { f with refs := k }
/-- 'Ref'. -/
def refE (fs : List FrS) (n : Int) : Int := if findE fs n false ≠ 0 then findE fs n false else match getF fs n with
  | none => 0
  | some f => if f.refs ≥ 60000 then 18 else 0
def refF (fs : List FrS) (n : Int) : List FrS := if refE fs n = 0 then updF fs n (fun f => { f with refs := f.refs + 1 }) else fs
def unrefF (fs : List FrS) (n : Int) : List FrS := if findE fs n false = 0 then updF fs n (fun f => { f with refs := f.refs - 1 }) else fs
def refsV (fs : List FrS) (n : Int) : Value := match getF fs n with
  | none => .tuple #[.int .i64 0, .int .i64 34]
  | some f => .tuple #[.int .i64 f.refs, .int .i64 0]
def poolV (ps : List PoolS) (fs : List FrS) (n : Int) : Value := match getF fs n with
  | none => .tuple #[.string ⟨#[]⟩, .int .i64 34]
  | some f => .tuple #[.string ((ps[f.pool]?.map (·.name)).getD ⟨#[]⟩), .int .i64 0]
theorem findV_true (fs : List FrS) (n : Int) : findV fs n true = match getF fs n with | none => .tuple #[.pointer none, .int .i64 34] | some f => .tuple #[.pointer (some ⟨f.b, 0, none⟩), .int .i64 0] := by
  unfold findV; cases getF fs n <;> simp

/-! ### Runs of free frames -/
def freeB (fs : List FrS) (n : Int) : Bool := match getF fs n with
  | none => false
  | some f => decide (f.refs = 0)
def scanF (fr : Int → Bool) : Nat → Int → Int
  | 0, n => n
  | k + 1, n => if fr n then scanF fr k (n + 1) else n
def runsL (fr : Int → Bool) : Nat → Int → Int → List (Int × Int)
  | 0, _, _ => []
  | k + 1, n, e => if n < e then (if n < scanF fr (e - n).toNat n then [(n, scanF fr (e - n).toNat n)] else []) ++ runsL fr k (scanF fr (e - n).toNat n + 1) e else []
theorem freeB_true {fs : List FrS} {n : Int} {f : FrS} (hg : getF fs n = some f) (h : f.refs = 0) : freeB fs n = true := by simp [freeB, hg, h]
theorem freeB_false {fs : List FrS} {n : Int} {f : FrS} (hg : getF fs n = some f) (h : ¬ f.refs = 0) : freeB fs n = false := by simp [freeB, hg, h]
theorem scanF_ge (fr : Int → Bool) : ∀ (k : Nat) (n : Int), n ≤ scanF fr k n ∧ scanF fr k n ≤ n + k
  | 0, n => by simp [scanF]
  | k + 1, n => by
    have h := scanF_ge fr k (n + 1)
    simp only [scanF]; split <;> omega
theorem scanF_eq (fr : Int → Bool) : ∀ (k : Nat) (n m : Int), n ≤ m → m ≤ n + k → (∀ j, n ≤ j → j < m → fr j = true) → (m = n + k ∨ fr m = false) → scanF fr k n = m
  | 0, n, m, h1, h2, _, _ => by simp only [scanF]; omega
  | k + 1, n, m, h1, h2, h3, h4 => by
    simp only [scanF]
    by_cases hn : n = m
    · subst hn
      have : fr n = false := by rcases h4 with h4 | h4 <;> first | exact h4 | omega
      simp [this]
    · rw [if_pos (h3 n (Int.le_refl _) (by omega))]
      exact scanF_eq fr k (n + 1) m (by omega) (by omega) (fun j a b => h3 j (by omega) b) (h4.imp (fun h => by omega) id)
theorem runsL_fuel (fr : Int → Bool) : ∀ (k : Nat) (n e : Int), (e - n).toNat ≤ k → runsL fr k n e = runsL fr (e - n).toNat n e
  | 0, n, e, h => by rw [show (e - n).toNat = 0 from by omega]
  | k + 1, n, e, h => by
    by_cases hn : n < e
    · obtain ⟨q, hq⟩ : ∃ q, (e - n).toNat = q + 1 := ⟨(e - n).toNat - 1, by omega⟩
      have hs := scanF_ge fr (e - n).toNat n
      rw [hq] at hs ⊢
      simp only [runsL, if_pos hn, hq]
      congr 1
      rw [runsL_fuel fr k _ e (by omega), runsL_fuel fr q _ e (by omega)]
    · rw [show (e - n).toNat = 0 from by omega]; simp [runsL, hn]
theorem runsL_step (fr : Int → Bool) {n e m : Int} (hn : n < e) (hm : scanF fr (e - n).toNat n = m) : runsL fr (e - n).toNat n e = (if n < m then [(n, m)] else []) ++ runsL fr (e - (m + 1)).toNat (m + 1) e := by
  obtain ⟨q, hq⟩ : ∃ q, (e - n).toNat = q + 1 := ⟨(e - n).toNat - 1, by omega⟩
  have hs := scanF_ge fr (e - n).toNat n
  conv => lhs; rw [hq]
  simp only [runsL, if_pos hn, hm]
  rw [runsL_fuel fr q _ e (by omega)]
theorem runsL_end (fr : Int → Bool) {n e : Int} (hn : ¬ n < e) : runsL fr (e - n).toNat n e = [] := by
  rw [show (e - n).toNat = 0 from by omega]; rfl
/-- The runs of a pool. -/
def runsP (fs : List FrS) (p : PoolS) : List (Int × Int) := runsL (freeB fs) (p.first + p.count - p.first).toNat p.first (p.first + p.count)
def sumR (rs : List (Int × Int)) : Int := rs.foldr (fun c s => c.2 - c.1 + s) 0
def maxR (rs : List (Int × Int)) : Int := rs.foldl (fun m c => if c.2 - c.1 > m then c.2 - c.1 else m) 0
theorem sumR_append (a b : List (Int × Int)) : sumR (a ++ b) = sumR a + sumR b := by
  induction a with
  | nil => simp [sumR]
  | cons x a ih => simp only [sumR, List.cons_append, List.foldr_cons] at *; omega
theorem maxR_snoc (a : List (Int × Int)) (c : Int × Int) : maxR (a ++ [c]) = if c.2 - c.1 > maxR a then c.2 - c.1 else maxR a := by simp [maxR, List.foldl_append]
theorem runsL_bnd (fr : Int → Bool) : ∀ (k : Nat) (n e : Int), (∀ c ∈ runsL fr k n e, n ≤ c.1 ∧ c.1 < c.2 ∧ c.2 ≤ e) ∧ (n ≤ e → sumR (runsL fr k n e) ≤ e - n) ∧ (¬ n < e → runsL fr k n e = [])
  | 0, n, e => by simp only [runsL, sumR]; simp
  | k + 1, n, e => by
    by_cases hn : n < e
    · have hs := scanF_ge fr (e - n).toNat n
      obtain ⟨h1, h2, h3⟩ := runsL_bnd fr k (scanF fr (e - n).toNat n + 1) e
      simp only [runsL, if_pos hn]
      refine ⟨fun c hc => ?_, fun _ => ?_, fun h => absurd hn h⟩
      · rcases List.mem_append.1 hc with hc | hc
        · split at hc
          · simp only [List.mem_singleton] at hc; subst hc; simp only; omega
          · cases hc
        · have := h1 c hc; omega
      · rw [sumR_append]
        have h4 : sumR (if n < scanF fr (e - n).toNat n then [(n, scanF fr (e - n).toNat n)] else []) ≤ scanF fr (e - n).toNat n - n := by
          split
          · simp [sumR]
          · simp only [sumR, List.foldr_nil]; omega
        by_cases he : scanF fr (e - n).toNat n + 1 ≤ e
        · have := h2 he; omega
        · rw [h3 (by omega)]; simp only [sumR, List.foldr_nil] at *; omega
    · simp [runsL, hn, sumR]
theorem sumR_nonneg : ∀ {rs : List (Int × Int)}, (∀ c ∈ rs, c.1 < c.2) → 0 ≤ sumR rs
  | [], _ => by simp [sumR]
  | c :: rs, h => by
    have h1 := sumR_nonneg (rs := rs) (fun x hx => h x (List.mem_cons_of_mem _ hx))
    have h2 := h c (List.mem_cons_self ..)
    simp only [sumR, List.foldr_cons] at *; omega
theorem runsP_pre {fs : List FrS} {p : PoolS} (hc : 0 ≤ p.count) {rs t : List (Int × Int)} {a b : Int} (h : runsP fs p = rs ++ (a, b) :: t) :
    p.first ≤ a ∧ a < b ∧ b ≤ p.first + p.count ∧ 0 ≤ sumR rs ∧ sumR rs + (b - a) ≤ p.count := by
  obtain ⟨h1, h2, _⟩ := runsL_bnd (freeB fs) (p.first + p.count - p.first).toNat p.first (p.first + p.count)
  rw [show runsL (freeB fs) (p.first + p.count - p.first).toNat p.first (p.first + p.count) = runsP fs p from rfl, h] at h1 h2
  have h3 := h1 (a, b) (by simp)
  have h4 := sumR_nonneg (rs := rs) (fun c hc => (h1 c (by simp [hc])).2.1)
  have h5 := sumR_nonneg (rs := t) (fun c hc => (h1 c (by simp [hc])).2.1)
  have h6 := h2 (by omega)
  rw [sumR_append] at h6
  simp only [sumR, List.foldr_cons] at *
  omega
theorem runsP_sum {fs : List FrS} {p : PoolS} (hc : 0 ≤ p.count) : 0 ≤ sumR (runsP fs p) ∧ sumR (runsP fs p) ≤ p.count := by
  obtain ⟨h1, h2, _⟩ := runsL_bnd (freeB fs) (p.first + p.count - p.first).toNat p.first (p.first + p.count)
  exact ⟨sumR_nonneg (fun c hc => (h1 c hc).2.1), by have := h2 (by omega); simp only [runsP]; omega⟩
def idxOf : List PoolS → ByteArray → Option Nat
  | [], _ => none
  | p :: l, s => if s = p.name then some 0 else (idxOf l s).map (· + 1)
theorem idxOf_some : ∀ {ps : List PoolS} {s : ByteArray} {i : Nat}, idxOf ps s = some i → i < ps.length ∧ ∃ p, ps[i]? = some p ∧ p.name = s
  | [], s, i, h => by cases h
  | p :: l, s, i, h => by
    simp only [idxOf] at h
    split at h
    · rename_i hs; cases h; exact ⟨by simp, p, rfl, hs.symm⟩
    · obtain ⟨j, hj, rfl⟩ := Option.map_eq_some_iff.1 h
      obtain ⟨h1, q, h2, h3⟩ := idxOf_some hj
      exact ⟨by simp; omega, q, by simpa using h2, h3⟩
/-- What holds of a table. -/
structure TabOk (T : TabS) (fs : List FrS) : Prop where
  he : T.es = fs.map FrS.ent
  il : ∀ s, lkM T.il s = (idxOf T.pools s).map fun i => .int .i64 (i : Int)
  ps : ∀ (i : Nat) (p : PoolS), T.pools[i]? = some p → 0 ≤ p.first ∧ 1 ≤ p.count ∧ p.first + p.count ≤ 4096
  cov : ∀ (i : Nat) (p : PoolS) (n : Int), T.pools[i]? = some p → p.first ≤ n → n < p.first + p.count → ∃ f, getF fs n = some f ∧ f.pool = i
  cov2 : ∀ n f, getF fs n = some f → ∃ p : PoolS, T.pools[f.pool]? = some p ∧ p.first ≤ n ∧ n < p.first + p.count
  refs : RefsOk fs
  len : T.pools.length ≤ 16
theorem TabOk.look0 {T : TabS} {fs : List FrS} (h : TabOk T fs) {s : ByteArray} (hi : idxOf T.pools s = none) : Value.tuple #[(lkM T.il s).getD (.int .i64 0), .bool (lkM T.il s).isSome] = .tuple #[.int .i64 0, .bool false] := by rw [h.il, hi]; rfl
theorem TabOk.look1 {T : TabS} {fs : List FrS} (h : TabOk T fs) {s : ByteArray} {i : Nat} (hi : idxOf T.pools s = some i) : Value.tuple #[(lkM T.il s).getD (.int .i64 0), .bool (lkM T.il s).isSome] = .tuple #[.int .i64 (i : Int), .bool true] := by rw [h.il, hi]; rfl
def usageV (ps : List PoolS) (fs : List FrS) (s : ByteArray) : Value := match idxOf ps s with
  | none => .tuple #[.agg #[.int .i64 0, .int .i64 0, .int .i64 0], .int .i64 22]
  | some i => match ps[i]? with
    | none => undef
    | some p => .tuple #[.agg #[.int .i64 (sumR (runsP fs p)), .int .i64 (p.count - sumR (runsP fs p)), .int .i64 (maxR (runsP fs p))], .int .i64 0]
def encStr (s : ByteArray) : List Value := [.string s]
theorem one_encInt {x : Int} {u : Value} (h : u ∈ encInt x) : oneC u = true := by simp only [encInt, List.mem_singleton] at h; subst h; rfl
theorem one_encNat {x : Nat} {u : Value} (h : u ∈ encNat x) : oneC u = true := by simp only [encNat, List.mem_singleton] at h; subst h; rfl
theorem one_encStr {x : ByteArray} {u : Value} (h : u ∈ encStr x) : oneC u = true := by simp only [encStr, List.mem_singleton] at h; subst h; rfl
theorem one_encPool {x : PoolS} {u : Value} (h : u ∈ encPool x) : oneC u = true := by
  simp only [encPool, List.mem_cons, List.not_mem_nil, or_false] at h
  rcases h with rfl | rfl | rfl | rfl | rfl <;> rfl
/-- Frames one after the other. -/
def rangeI (a : Int) (k : Nat) : List Int := (List.range k).map fun j : Nat => a + j
theorem rangeI_len (a : Int) (k : Nat) : (rangeI a k).length = k := by simp [rangeI]
theorem rangeI_succ (a : Int) (k : Nat) : rangeI a (k + 1) = rangeI a k ++ [a + k] := by simp [rangeI, List.range_succ]
theorem rangeI_step {a n : Int} (h : a ≤ n) : rangeI a (n + 1 - a).toNat = rangeI a (n - a).toNat ++ [n] := by
  rw [show (n + 1 - a).toNat = (n - a).toNat + 1 by omega, rangeI_succ]
  congr 2; omega
def flatR (rs : List (Int × Int)) : List Int := rs.flatMap fun c => rangeI c.1 (c.2 - c.1).toNat
theorem flatR_snoc (rs : List (Int × Int)) (c : Int × Int) : flatR (rs ++ [c]) = flatR rs ++ rangeI c.1 (c.2 - c.1).toNat := by simp [flatR]
def freeL (fs : List FrS) (p : PoolS) : List Int := flatR (runsP fs p)
/-- What one pool gives. -/
def singP (fs : List FrS) (top : Bool) (p : PoolS) : List Int := if top = true then (freeL fs p).reverse else freeL fs p
def singL (ps : List PoolS) (fs : List FrS) (top : Bool) (cnt : Int) : List Nat → List Int → List Int
  | [], out => out
  | i :: l, out => singL ps fs top cnt l (match ps[i]? with | none => out | some p => out ++ (singP fs top p).take (min (cnt - (out.length : Int)).toNat (singP fs top p).length))
def idxN : List Nat → Int → Int → Int
  | [], _, _ => -1
  | x :: l, v, i => if v = (x : Int) then i else idxN l v (i + 1)
theorem flatR_len : ∀ {rs : List (Int × Int)}, (∀ c ∈ rs, c.1 < c.2) → ((flatR rs).length : Int) = sumR rs
  | [], _ => by simp [flatR, sumR]
  | c :: rs, h => by
    have h1 := flatR_len (rs := rs) (fun x hx => h x (List.mem_cons_of_mem _ hx))
    have h2 := h c (List.mem_cons_self ..)
    simp only [flatR, List.flatMap_cons, List.length_append, rangeI_len, sumR, List.foldr_cons] at *
    omega
theorem runsP_lt {fs : List FrS} {p : PoolS} : ∀ c ∈ runsP fs p, c.1 < c.2 := fun c hc => ((runsL_bnd _ _ _ _).1 c hc).2.1
theorem singP_len {fs : List FrS} {p : PoolS} {top : Bool} : ((singP fs top p).length : Int) = sumR (runsP fs p) := by
  unfold singP; split
  · rw [List.length_reverse]; exact flatR_len runsP_lt
  · exact flatR_len runsP_lt
/-- The place in the runs of one pool. -/
def runAt (al cnt : Int) (top : Bool) : List (Int × Int) → Int → Int
  | [], at_ => at_
  | c :: rs, at_ => if (c.1 + al - 1).tdiv al * al + cnt > c.2 then runAt al cnt top rs at_ else if top = false then (c.1 + al - 1).tdiv al * al else runAt al cnt top rs ((c.2 - cnt).tdiv al * al)
def runV (ps : List PoolS) (fs : List FrS) (al cnt : Int) (top : Bool) : List Nat → Option Int
  | [] => none
  | i :: l => match ps[i]? with
    | none => runV ps fs al cnt top l
    | some p => if runAt al cnt top (runsP fs p) (-1) ≥ 0 then some (runAt al cnt top (runsP fs p) (-1)) else runV ps fs al cnt top l
def runO (cnt : Int) : Option Int → List Int
  | none => []
  | some a => rangeI a cnt.toNat
theorem rangeI_set (a : Int) {k c : Nat} (h : k < c) : (rangeI a k ++ List.replicate (c - k) (0 : Int)).set k (a + k) = rangeI a (k + 1) ++ List.replicate (c - (k + 1)) 0 := by
  rw [rangeI_succ, List.set_append_right _ _ (by rw [rangeI_len]; exact Nat.le_refl _), rangeI_len, Nat.sub_self, show c - k = (c - (k + 1)) + 1 by omega, List.replicate_succ, List.set_cons_zero]
  simp
/-- The pools of a request. -/
def genL : List PoolS → Nat → List Nat
  | [], _ => []
  | p :: l, i => if p.general = true then i :: genL l (i + 1) else genL l (i + 1)
def lookL (ps : List PoolS) : List ByteArray → Option (List Nat)
  | [] => some []
  | s :: l => match idxOf ps s with
    | none => none
    | some i => (lookL ps l).map (i :: ·)
def dupAt (l : List Nat) (k : Nat) : Prop := idxN (l.take k) ((l[k]?.getD 0 : Nat) : Int) 0 ≥ 0
instance (l : List Nat) (k : Nat) : Decidable (dupAt l k) := by unfold dupAt; infer_instance
def dupB (l : List Nat) : Bool := (List.range l.length).any fun k => decide (dupAt l k)
def askE (ps : List PoolS) (names : List ByteArray) : Int :=
  if names.length = 0 then 0 else if names.length > 16 then 18 else match lookL ps names with
    | none => 22
    | some l => if dupB l = true then 38 else 0
def askL (ps : List PoolS) (names : List ByteArray) : List Nat := if names.length = 0 then genL ps 0 else if askE ps names = 0 then (lookL ps names).getD [] else []
theorem dupB_yes {l : List Nat} {k : Nat} (hk : k < l.length) (h : dupAt l k) : dupB l = true := by
  simp only [dupB, List.any_eq_true, List.mem_range, decide_eq_true_eq]; exact ⟨k, hk, h⟩
theorem dupB_no {l : List Nat} (h : ∀ k, k < l.length → ¬ dupAt l k) : dupB l = false := by
  simp only [dupB, List.any_eq_false, List.mem_range, decide_eq_true_eq]; exact h
theorem lookL_len {ps : List PoolS} : ∀ {l : List ByteArray} {o : List Nat}, lookL ps l = some o → o.length = l.length ∧ ∀ i ∈ o, i < ps.length
  | [], o, h => by simp only [lookL, Option.some.injEq] at h; subst h; simp
  | s :: l, o, h => by
    simp only [lookL] at h
    split at h
    · cases h
    · rename_i i hi
      obtain ⟨o', h1, rfl⟩ := Option.map_eq_some_iff.1 h
      obtain ⟨h2, h3⟩ := lookL_len h1
      exact ⟨by simp [h2], by intro j hj; exact (List.mem_cons.1 hj).elim (fun e => e ▸ (idxOf_some hi).1) (h3 j)⟩
theorem genL_mem {ps : List PoolS} : ∀ {k i : Nat}, i ∈ genL ps k → k ≤ i ∧ i < k + ps.length := by
  induction ps with
  | nil => intro k i h; simp [genL] at h
  | cons p l ih =>
    intro k i h
    simp only [genL] at h
    split at h
    · rcases List.mem_cons.1 h with rfl | h
      · simp
      · have := ih h; simp; omega
    · have := ih h; simp; omega
theorem genL_len {ps : List PoolS} : ∀ {k : Nat}, (genL ps k).length ≤ ps.length := by
  induction ps with
  | nil => intro k; simp [genL]
  | cons p l ih => intro k; simp only [genL]; have := ih (k := k + 1); split <;> simp <;> omega
theorem askL_ok {ps : List PoolS} {names : List ByteArray} (hp : ps.length ≤ 16) : (askL ps names).length ≤ 16 ∧ ∀ i ∈ askL ps names, i < ps.length := by
  unfold askL
  split
  · exact ⟨Nat.le_trans genL_len hp, fun i hi => by have := genL_mem hi; omega⟩
  · split
    · rename_i h0 h
      unfold askE at h
      rw [if_neg h0] at h
      split at h
      · cases h
      · cases hl : lookL ps names with
        | none => simp
        | some o => obtain ⟨h2, h3⟩ := lookL_len hl; exact ⟨by simp; omega, by simpa using h3⟩
    · simp
end Go.Sx.Fr
