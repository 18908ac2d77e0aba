/- Plain laws on Alloc: what is found is free. -/
import Derived.Test.YtinpojleegfadaaFr
set_option linter.unusedVariables false
set_option linter.unusedSimpArgs false
namespace Go.Sx.Fr
open Go
theorem TabOk.upd {T : TabS} {fs : List FrS} (h : TabOk T fs) (n : Int) (g : FrS → FrS) (hg : ∀ f, (g f).ent = f.ent ∧ (g f).pool = f.pool) (hr : ∀ f, getF fs n = some f → 0 ≤ (g f).refs ∧ (g f).refs ≤ 60000) : TabOk T (updF fs n g) := by
  have hgn : ∀ f, (g f).n = f.n := fun f => congrArg (·.1) (hg f).1
  have key : ∀ m f, getF (updF fs n g) m = some f → ∃ f0, getF fs m = some f0 ∧ f.pool = f0.pool ∧ (0 ≤ f.refs ∧ f.refs ≤ 60000) := by
    intro m f hm
    rw [getF_updF fs n g hgn] at hm
    split at hm
    · rename_i e; subst e
      obtain ⟨f0, h0, rfl⟩ := Option.map_eq_some_iff.1 hm
      exact ⟨f0, h0, (hg f0).2, hr f0 h0⟩
    · exact ⟨f, hm, rfl, h.refs m f hm⟩
  refine ⟨by rw [ent_updF fs n g fun f => (hg f).1]; exact h.he, h.il, h.ps, ?_, ?_, fun m f hm => ?_, h.len⟩
  · intro i p m hp h1 h2
    obtain ⟨f, hf, hi⟩ := h.cov i p m hp h1 h2
    rw [getF_updF fs n g hgn]
    split
    · rename_i e; subst e; exact ⟨g f, by rw [hf]; rfl, by rw [(hg f).2]; exact hi⟩
    · exact ⟨f, hf, hi⟩
  · intro m f hm
    obtain ⟨f0, h0, h1, _⟩ := key m f hm
    rw [h1]; exact h.cov2 m f0 h0
  · obtain ⟨f0, h0, _, h2⟩ := key m f hm; exact h2

/-! ### What the runs hold -/
theorem scanF_free (fr : Int → Bool) : ∀ (k : Nat) (n j : Int), n ≤ j → j < scanF fr k n → fr j = true
  | 0, n, j, h1, h2 => by simp only [scanF] at h2; omega
  | k + 1, n, j, h1, h2 => by
    simp only [scanF] at h2
    split at h2
    · rename_i hn
      by_cases hj : n = j
      · subst hj; exact hn
      · exact scanF_free fr k (n + 1) j (by omega) h2
    · omega
theorem runsL_free (fr : Int → Bool) : ∀ (k : Nat) (n e : Int) (c : Int × Int), c ∈ runsL fr k n e → ∀ j, c.1 ≤ j → j < c.2 → fr j = true
  | 0, n, e, c, h, j, h1, h2 => by simp [runsL] at h
  | k + 1, n, e, c, h, j, h1, h2 => by
    simp only [runsL] at h
    split at h
    · rcases List.mem_append.1 h with h | h
      · split at h
        · simp only [List.mem_singleton] at h; subst h; exact scanF_free fr _ n j h1 h2
        · cases h
      · exact runsL_free fr k _ e c h j h1 h2
    · cases h
theorem mem_rangeI {a n : Int} {k : Nat} : n ∈ rangeI a k ↔ a ≤ n ∧ n < a + k := by
  simp only [rangeI, List.mem_map, List.mem_range]
  constructor
  · rintro ⟨j, hj, rfl⟩; omega
  · rintro ⟨h1, h2⟩; exact ⟨(n - a).toNat, by omega, by omega⟩
theorem mem_flatR {rs : List (Int × Int)} {n : Int} (h : n ∈ flatR rs) : ∃ c ∈ rs, c.1 ≤ n ∧ n < c.2 := by
  simp only [flatR, List.mem_flatMap, mem_rangeI] at h
  obtain ⟨c, hc, h1, h2⟩ := h; exact ⟨c, hc, h1, by omega⟩
theorem run_of {fs : List FrS} {p : PoolS} {c : Int × Int} (hc : c ∈ runsP fs p) : p.first ≤ c.1 ∧ c.1 < c.2 ∧ c.2 ≤ p.first + p.count ∧ ∀ j, c.1 ≤ j → j < c.2 → freeB fs j = true :=
  have h := (runsL_bnd _ _ _ _).1 c hc
  ⟨h.1, h.2.1, h.2.2, runsL_free _ _ _ _ c hc⟩
theorem mem_freeL {fs : List FrS} {p : PoolS} {n : Int} (h : n ∈ freeL fs p) : p.first ≤ n ∧ n < p.first + p.count ∧ freeB fs n = true := by
  obtain ⟨c, hc, h1, h2⟩ := mem_flatR h
  obtain ⟨h3, h4, h5, h6⟩ := run_of hc
  exact ⟨by omega, by omega, h6 n h1 h2⟩
theorem mem_singL {ps : List PoolS} {fs : List FrS} {top : Bool} {cnt : Int} : ∀ {l : List Nat} {out : List Int} {n : Int}, n ∈ singL ps fs top cnt l out → n ∈ out ∨ ∃ i ∈ l, ∃ p, ps[i]? = some p ∧ n ∈ freeL fs p
  | [], out, n, h => .inl h
  | i :: l, out, n, h => by
    simp only [singL] at h
    rcases mem_singL h with h | ⟨j, hj, p, hp, hn⟩
    · split at h
      · exact .inl h
      · rename_i p hp
        rcases List.mem_append.1 h with h | h
        · exact .inl h
        · refine .inr ⟨i, by simp, p, hp, ?_⟩
          have := List.mem_of_mem_take h
          unfold singP at this
          split at this
          · exact List.mem_reverse.1 this
          · exact this
    · exact .inr ⟨j, by simp [hj], p, hp, hn⟩
theorem runAt_spec {al cnt : Int} {top : Bool} (ha : 1 ≤ al) (hc : 1 ≤ cnt) : ∀ {rs : List (Int × Int)} {a0 r : Int}, (∀ c ∈ rs, 0 ≤ c.1) → runAt al cnt top rs a0 = r → r = a0 ∨ ∃ c ∈ rs, c.1 ≤ r ∧ r + cnt ≤ c.2
  | [], a0, r, _, h => .inl h.symm
  | c :: rs, a0, r, h0, h => by
    have hc0 := h0 c (by simp)
    have hlow : c.1 ≤ (c.1 + al - 1).tdiv al * al := by
      rw [Int.tdiv_eq_ediv_of_nonneg (by omega)]
      have h1 := Int.lt_ediv_add_one_mul_self (c.1 + al - 1) (show 0 < al by omega)
      have h2 : ((c.1 + al - 1) / al + 1) * al = (c.1 + al - 1) / al * al + al := by rw [Int.add_mul, Int.one_mul]
      omega
    simp only [runAt] at h
    split at h
    · rcases runAt_spec ha hc (fun x hx => h0 x (by simp [hx])) h with h | ⟨d, hd, h1, h2⟩
      · exact .inl h
      · exact .inr ⟨d, by simp [hd], h1, h2⟩
    · rename_i hfit
      split at h
      · exact .inr ⟨c, by simp, by omega, by omega⟩
      · rcases runAt_spec ha hc (fun x hx => h0 x (by simp [hx])) h with h | ⟨d, hd, h1, h2⟩
        · refine .inr ⟨c, by simp, ?_, ?_⟩
          · have hbc : 0 ≤ c.2 - cnt := by
              have h3 := (tdiv_mul_bnd (x := c.1 + al - 1) (a := al) (by omega) ha).2.2.1
              omega
            have h4 : (c.1 + al - 1).tdiv al ≤ (c.2 - cnt).tdiv al := by
              rw [Int.tdiv_eq_ediv_of_nonneg hbc]
              exact Int.le_ediv_of_mul_le (by omega) (by omega)
            have h5 := Int.mul_le_mul_of_nonneg_right h4 (show 0 ≤ al by omega)
            omega
          · have hbc : 0 ≤ c.2 - cnt := by
              have h3 := (tdiv_mul_bnd (x := c.1 + al - 1) (a := al) (by omega) ha).2.2.1
              omega
            have := (tdiv_mul_bnd (x := c.2 - cnt) (a := al) hbc ha).2.2.2
            omega
        · exact .inr ⟨d, by simp [hd], h1, h2⟩
theorem mem_runO {T : TabS} {fs : List FrS} (ht : TabOk T fs) {al cnt : Int} {top : Bool} (ha : 1 ≤ al) (hc : 1 ≤ cnt) : ∀ {l : List Nat} {n : Int}, n ∈ runO cnt (runV T.pools fs al cnt top l) → ∃ i ∈ l, ∃ p, T.pools[i]? = some p ∧ p.first ≤ n ∧ n < p.first + p.count ∧ freeB fs n = true
  | [], n, h => by simp [runV, runO] at h
  | i :: l, n, h => by
    simp only [runV] at h
    split at h
    · obtain ⟨j, hj, h⟩ := mem_runO ht ha hc h; exact ⟨j, by simp [hj], h⟩
    · rename_i p hp
      split at h
      · rename_i hat
        simp only [runO, mem_rangeI] at h
        have hps := ht.ps i p hp
        rcases runAt_spec ha hc (fun c hc' => by have := (run_of hc').1; omega) (rfl : runAt al cnt top (runsP fs p) (-1) = _) with h1 | ⟨c, hc', h1, h2⟩
        · omega
        · obtain ⟨h3, h4, h5, h6⟩ := run_of hc'
          exact ⟨i, by simp, p, hp, by omega, by omega, h6 n (by omega) (by omega)⟩
      · obtain ⟨j, hj, h⟩ := mem_runO ht ha hc h; exact ⟨j, by simp [hj], h⟩

/-! ### 'Alloc' -/
def zeroPg : List UInt8 := List.replicate 64 0
def takeF (ps : List PoolS) (f : FrS) : FrS := { f with refs := 1, data := match f.data with
  | none => none
  | some d => if (ps[f.pool]?.map (·.keep)) = some false ∧ d.2 ≠ zeroPg then none else some d }
def allocF (ps : List PoolS) (fs : List FrS) (l : List Int) : List FrS := l.foldl (fun fs n => updF fs n (takeF ps)) fs
theorem takeF_ent (ps : List PoolS) (f : FrS) : (takeF ps f).ent = f.ent ∧ (takeF ps f).pool = f.pool := ⟨rfl, rfl⟩
theorem allocF_ok {T : TabS} {ps : List PoolS} : ∀ {l : List Int} {fs : List FrS}, TabOk T fs → TabOk T (allocF ps fs l)
  | [], fs, h => h
  | n :: l, fs, h => allocF_ok (l := l) (h.upd n (takeF ps) (takeF_ent ps) (fun f _ => ⟨by simp [takeF], by simp [takeF]⟩))
theorem allocF_some {ps : List PoolS} : ∀ {l : List Int} {fs : List FrS} {n : Int} {f : FrS}, getF fs n = some f → ∃ g, getF (allocF ps fs l) n = some g
  | [], fs, n, f, h => ⟨f, h⟩
  | m :: l, fs, n, f, h => by
    have : ∃ g, getF (updF fs m (takeF ps)) n = some g := by
      rw [getF_updF fs m (takeF ps) (fun _ => rfl)]
      split
      · rename_i e; subst e; exact ⟨_, by rw [h]; rfl⟩
      · exact ⟨f, h⟩
    obtain ⟨g, hg⟩ := this
    exact allocF_some (l := l) hg
def NoData (fs : List FrS) : Prop := ∀ n f, getF fs n = some f → f.data = none
theorem allocF_nodata {ps : List PoolS} : ∀ {l : List Int} {fs : List FrS}, NoData fs → NoData (allocF ps fs l)
  | [], fs, h => h
  | m :: l, fs, h => by
    refine allocF_nodata (l := l) ?_
    intro n f hn
    simp only [] at hn
    rw [getF_updF fs m (takeF ps) (fun _ => rfl)] at hn
    split at hn
    · obtain ⟨f0, h0, rfl⟩ := Option.map_eq_some_iff.1 hn
      have hd := h m f0 h0
      show (match f0.data with | none => none | some d => if (ps[f0.pool]?.map (·.keep)) = some false ∧ d.2 ≠ zeroPg then none else some d) = none
      rw [hd]
    · exact h n f hn
theorem allocF_snoc (ps : List PoolS) (fs : List FrS) (l : List Int) (n : Int) : allocF ps fs (l ++ [n]) = updF (allocF ps fs l) n (takeF ps) := by simp [allocF, List.foldl_append]
structure ReqS where
  names : List ByteArray
  cnt : Int
  al : Int
  cg : Bool
  top : Bool
def badB (al : Int) : Int := IntKind.i64.wrap ((BitVec.ofInt IntKind.i64.bits al &&& (BitVec.ofInt IntKind.i64.bits (al - 1))).toNat : Int)
def badAl (al : Int) (cg : Bool) : Prop := (al < 1 ∨ al > 4096) ∨ ¬ badB al = 0 ∨ (¬ cg = true ∧ ¬ al = 1)
instance (al : Int) (cg : Bool) : Decidable (badAl al cg) := by unfold badAl; infer_instance
/-- The frames that are found. -/
def foundL (ps : List PoolS) (fs : List FrS) (r : ReqS) : List Int := if r.cg = true then runO r.cnt (runV ps fs r.al r.cnt r.top (askL ps r.names)) else singL ps fs r.top r.cnt (askL ps r.names) []
def allocE (ps : List PoolS) (fs : List FrS) (r : ReqS) : Int :=
  if r.cnt < 1 ∨ r.cnt > 4096 then 34 else if badAl r.al r.cg then 14 else if askE ps r.names ≠ 0 then askE ps r.names else if ((foundL ps fs r).length : Int) < r.cnt then 23 else 0
def allocO (ps : List PoolS) (fs : List FrS) (r : ReqS) : List Int := if allocE ps fs r = 0 then foundL ps fs r else []
theorem mem_foundL {T : TabS} {fs : List FrS} (ht : TabOk T fs) {r : ReqS} (hc : 1 ≤ r.cnt) (ha : 1 ≤ r.al) {n : Int} (h : n ∈ foundL T.pools fs r) : ∃ i ∈ askL T.pools r.names, ∃ p, T.pools[i]? = some p ∧ p.first ≤ n ∧ n < p.first + p.count ∧ freeB fs n = true := by
  unfold foundL at h
  split at h
  · exact mem_runO ht ha hc h
  · rcases mem_singL h with h | ⟨i, hi, p, hp, h⟩
    · cases h
    · exact ⟨i, hi, p, hp, mem_freeL h⟩
theorem found_some {T : TabS} {fs : List FrS} (ht : TabOk T fs) {r : ReqS} (hc : 1 ≤ r.cnt) (ha : 1 ≤ r.al) {l : List Int} {n : Int} (h : n ∈ foundL T.pools fs r) : ∃ f, getF (allocF T.pools fs l) n = some f := by
  obtain ⟨i, _, p, hp, h1, h2, _⟩ := mem_foundL ht hc ha h
  obtain ⟨f, hf, _⟩ := ht.cov i p n hp h1 h2
  exact allocF_some hf
theorem singL_len {ps : List PoolS} {fs : List FrS} {top : Bool} {cnt : Int} : ∀ {l : List Nat} {out : List Int}, (out.length : Int) ≤ cnt → ((singL ps fs top cnt l out).length : Int) ≤ cnt
  | [], out, h => h
  | i :: l, out, h => by
    simp only [singL]
    refine singL_len ?_
    split
    · exact h
    · rw [List.length_append, List.length_take]; omega
theorem foundL_len {ps : List PoolS} {fs : List FrS} {r : ReqS} (hc : 1 ≤ r.cnt) : ((foundL ps fs r).length : Int) ≤ r.cnt := by
  unfold foundL
  split
  · cases runV ps fs r.al r.cnt r.top (askL ps r.names) with
    | none => simp [runO]; omega
    | some a => simp [runO, rangeI_len]; omega
  · exact singL_len (by simp; omega)
/-- Pages have 64 bytes. -/
def PgOk (fs : List FrS) : Prop := ∀ n f, getF fs n = some f → ∀ d, f.data = some d → d.2.length = 64
theorem PgOk.upd {fs : List FrS} (h : PgOk fs) (n : Int) (g : FrS → FrS) (hn : ∀ f, (g f).n = f.n) (hg : ∀ f, getF fs n = some f → ∀ d, (g f).data = some d → d.2.length = 64) : PgOk (updF fs n g) := by
  intro m f hm d hd
  rw [getF_updF fs n g hn] at hm
  split at hm
  · obtain ⟨f0, h0, rfl⟩ := Option.map_eq_some_iff.1 hm
    exact hg f0 h0 d hd
  · exact h m f hm d hd
theorem allocF_pg {ps : List PoolS} : ∀ {l : List Int} {fs : List FrS}, PgOk fs → PgOk (allocF ps fs l)
  | [], fs, h => h
  | m :: l, fs, h => by
    refine allocF_pg (l := l) (h.upd m (takeF ps) (fun _ => rfl) (fun f hf d hd => ?_))
    have hd' : (match f.data with | none => none | some d => if (ps[f.pool]?.map (·.keep)) = some false ∧ d.2 ≠ zeroPg then none else some d) = some d := hd
    cases hx : f.data with
    | none => rw [hx] at hd'; cases hd'
    | some d0 =>
      rw [hx] at hd'
      simp only [] at hd'
      split at hd'
      · cases hd'
      · simp only [Option.some.injEq] at hd'; subst hd'; exact h m f hf d0 hx
end Go.Sx.Fr
