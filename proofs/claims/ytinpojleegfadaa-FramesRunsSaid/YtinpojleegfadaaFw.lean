/- The plain law of FramesApart: what is allocated is different, and the sum of the used frames. -/
import Derived.Test.YtinpojleegfadaaFv
import Derived.Test.YtinpojleegfadaaSv
set_option linter.unusedVariables false
set_option linter.unusedSimpArgs false
namespace Go.Sx.Fr
open Go
/-! ### The counts that the law keeps -/
def ents : List (Int × Int) → Nat → List (Int × Value × Nat)
  | [], _ => []
  | x :: l, k => (x.1, .int .i64 x.2, k) :: ents l (k + 1)
def valM : List (Int × Int) → Int → Int
  | [], _ => 0
  | x :: l, n => if n = x.1 then x.2 else valM l n
def setM : List (Int × Int) → Int → Int → List (Int × Int)
  | [], n, v => [(n, v)]
  | x :: l, n, v => if n = x.1 then (n, v) :: l else x :: setM l n v
def setA (ml : List (Int × Int)) (l : List Int) : List (Int × Int) := l.foldl (fun m n => setM m n 1) ml
theorem ents_look (n : Int) : ∀ (ml : List (Int × Int)) (k : Nat), (lkM (ents ml k) n).getD (.int .i64 0) = .int .i64 (valM ml n)
  | [], k => rfl
  | x :: l, k => by
    simp only [ents, lkM, valM]
    split
    · rfl
    · exact ents_look n l (k + 1)
theorem ents_in (n v : Int) : ∀ (ml : List (Int × Int)) (k c : Nat), c = k + ml.length → inM (ents ml k) n (.int .i64 v) c = ents (setM ml n v) k
  | [], k, c, h => by subst h; simp [ents, inM, setM]
  | x :: l, k, c, h => by
    simp only [ents, inM, setM]
    split
    · simp only [ents]
    · simp only [ents]; rw [ents_in n v l (k + 1) c (by simp at h; omega)]
theorem ents_clk (n v : Int) : ∀ (ml : List (Int × Int)) (k : Nat), (bif (lkM (ents ml k) n).isSome then ml.length else ml.length + 1) = (setM ml n v).length
  | [], k => rfl
  | x :: l, k => by
    have ih := ents_clk n v l (k + 1)
    simp only [ents, lkM, setM]
    split
    · simp
    · simp only [List.length_cons, ← ih]
      cases (lkM (ents l (k + 1)) n).isSome <;> rfl
theorem valM_setM (ml : List (Int × Int)) (n v m : Int) : valM (setM ml n v) m = if m = n then v else valM ml m := by
  induction ml with
  | nil => simp [setM, valM]
  | cons x l ih =>
    simp only [setM]
    by_cases h : n = x.1
    · rw [if_pos h]; simp only [valM]
      by_cases hm : m = n
      · simp [hm]
      · rw [if_neg hm, if_neg hm, if_neg (fun e => hm (e.trans h.symm))]
    · rw [if_neg h]; simp only [valM]
      by_cases hm : m = x.1
      · rw [if_pos hm, if_neg (fun e => h (e.symm.trans hm)), if_pos hm]
      · rw [if_neg hm, ih, if_neg hm]
theorem setM_mem {ml : List (Int × Int)} {n v : Int} {k : Int} (h : k ∈ (setM ml n v).map (·.1)) : k = n ∨ k ∈ ml.map (·.1) := by
  induction ml with
  | nil => simp [setM] at h; exact .inl h
  | cons x l ih =>
    simp only [setM] at h
    split at h
    · simp only [List.map_cons, List.mem_cons] at h ⊢
      rcases h with h | h
      · exact .inl h
      · exact .inr (.inr h)
    · simp only [List.map_cons, List.mem_cons] at h ⊢
      rcases h with h | h
      · exact .inr (.inl h)
      · rcases ih h with h | h
        · exact .inl h
        · exact .inr (.inr h)
theorem setM_nodup {ml : List (Int × Int)} {n v : Int} (h : (ml.map (·.1)).Nodup) : ((setM ml n v).map (·.1)).Nodup := by
  induction ml with
  | nil => simp [setM]
  | cons x l ih =>
    simp only [List.map_cons, List.nodup_cons] at h
    simp only [setM]
    split
    · rename_i hn; simp only [List.map_cons, List.nodup_cons]; exact ⟨hn ▸ h.1, h.2⟩
    · rename_i hn
      simp only [List.map_cons, List.nodup_cons]
      exact ⟨fun hm => (setM_mem hm).elim (fun e => hn e.symm) h.1, ih h.2⟩
theorem valM_setA {l : List Int} : ∀ {ml : List (Int × Int)} {m : Int}, valM (setA ml l) m = if m ∈ l then 1 else valM ml m := by
  induction l with
  | nil => intro ml m; simp [setA]
  | cons n l ih =>
    intro ml m
    show valM (setA (setM ml n 1) l) m = _
    rw [ih, valM_setM]
    by_cases h1 : m ∈ l
    · simp [h1]
    · by_cases h2 : m = n <;> simp [h1, h2]
theorem setA_nodup {l : List Int} : ∀ {ml : List (Int × Int)}, (ml.map (·.1)).Nodup → ((setA ml l).map (·.1)).Nodup := by
  induction l with
  | nil => intro ml h; exact h
  | cons n l ih => intro ml h; exact ih (setM_nodup h)
theorem setA_snoc (ml : List (Int × Int)) (l : List Int) (n : Int) : setA ml (l ++ [n]) = setM (setA ml l) n 1 := by simp [setA, List.foldl_append]
def rf (fs : List FrS) (n : Int) : Int := match getF fs n with
  | none => 0
  | some f => f.refs
structure InvA (fs : List FrS) (ml : List (Int × Int)) : Prop where
  v : ∀ n, valM ml n = rf fs n
  k : (ml.map (·.1)).Nodup
  u : ∀ n f, getF fs n = some f → 0 ≤ f.refs ∧ f.refs ≤ 1
theorem free_rf {fs : List FrS} {n : Int} (h : freeB fs n = true) : rf fs n = 0 := by
  unfold freeB at h; unfold rf
  cases hg : getF fs n with
  | none => rfl
  | some f => rw [hg] at h; simpa using h
theorem rf_updF {fs : List FrS} {n m : Int} {g : FrS → FrS} (hg : ∀ f, (g f).n = f.n) : rf (updF fs n g) m = if m = n then (match getF fs n with | none => 0 | some f => (g f).refs) else rf fs m := by
  unfold rf
  rw [getF_updF fs n g hg]
  by_cases h : m = n
  · subst h; rw [if_pos rfl, if_pos rfl]; cases getF fs m <;> rfl
  · rw [if_neg h, if_neg h]
theorem rf_allocF {ps : List PoolS} : ∀ {l : List Int} {fs : List FrS} {n : Int}, (∀ k ∈ l, ∃ f, getF fs k = some f) → rf (allocF ps fs l) n = if n ∈ l then 1 else rf fs n
  | [], fs, n, _ => by simp [allocF]
  | m :: l, fs, n, h => by
    show rf (allocF ps (updF fs m (takeF ps)) l) n = _
    obtain ⟨f, hf⟩ := h m (by simp)
    rw [rf_allocF (l := l) (fun k hk => by
      obtain ⟨f', hf'⟩ := h k (by simp [hk])
      rw [getF_updF fs m (takeF ps) (fun _ => rfl)]
      split
      · rename_i e; subst e; rw [hf']; exact ⟨_, rfl⟩
      · exact ⟨f', hf'⟩), rf_updF (g := takeF ps) (fun _ => rfl), hf]
    by_cases h1 : n ∈ l
    · simp [h1]
    · by_cases h2 : n = m <;> simp [h1, h2, takeF]
theorem getF_allocF {ps : List PoolS} : ∀ {l : List Int} {fs : List FrS} {n : Int} {f : FrS}, getF (allocF ps fs l) n = some f → f.refs = 1 ∨ ∃ f0, getF fs n = some f0 ∧ f.refs = f0.refs
  | [], fs, n, f, h => .inr ⟨f, h, rfl⟩
  | m :: l, fs, n, f, h => by
    rcases getF_allocF (l := l) h with h1 | ⟨f0, h1, h2⟩
    · exact .inl h1
    · simp only [] at h1
      rw [getF_updF fs m (takeF ps) (fun _ => rfl)] at h1
      split at h1
      · obtain ⟨f1, _, rfl⟩ := Option.map_eq_some_iff.1 h1
        exact .inl (by rw [h2]; rfl)
      · exact .inr ⟨f0, h1, h2⟩
theorem invA_alloc {T : TabS} {fs : List FrS} {ml : List (Int × Int)} (ht : TabOk T fs) (h : InvA fs ml) {r : ReqS} (he : allocE T.pools fs r = 0) : InvA (allocF T.pools fs (foundL T.pools fs r)) (setA ml (foundL T.pools fs r)) := by
  have hb : 1 ≤ r.cnt ∧ 1 ≤ r.al := by
    unfold allocE at he
    split at he
    · omega
    · rename_i h1
      split at he
      · omega
      · rename_i h2; unfold badAl at h2; omega
  refine ⟨fun n => ?_, setA_nodup h.k, fun n f hf => ?_⟩
  · rw [valM_setA, rf_allocF (fun k hk => by obtain ⟨f, hf⟩ := found_some (l := []) ht hb.1 hb.2 hk; exact ⟨f, hf⟩), h.v]
  · rcases getF_allocF hf with h1 | ⟨f0, h1, h2⟩
    · omega
    · have := h.u n f0 h1; omega
theorem invA_unref {fs : List FrS} {ml : List (Int × Int)} (h : InvA fs ml) {n : Int} (he : findE fs n false = 0) : rf fs n = 1 ∧ InvA (unrefF fs n) (setM ml n (valM ml n - 1)) := by
  rcases findV_cases fs n false with ⟨h1, _⟩ | ⟨_, f, hg, h0, _⟩
  · exact absurd he h1
  have hu := h.u n f hg
  have h1 : f.refs = 1 := by
    have : ¬ f.refs = 0 := fun e => by simpa using h0 e
    omega
  have hr : rf fs n = 1 := by unfold rf; rw [hg]; exact h1
  refine ⟨hr, fun m => ?_, setM_nodup h.k, fun m g hm => ?_⟩
  · unfold unrefF
    rw [if_pos he, valM_setM, rf_updF (g := fun f => { f with refs := f.refs - 1 }) (fun _ => rfl), hg]
    split
    · rw [h.v, hr]; simp only []; omega
    · exact h.v m
  · unfold unrefF at hm
    rw [if_pos he, getF_updF fs n (fun f => { f with refs := f.refs - 1 }) (fun _ => rfl)] at hm
    split at hm
    · rw [hg] at hm; simp only [Option.map_some, Option.some.injEq] at hm; subst hm; simp only []; omega
    · exact h.u m g hm
theorem tabOk_unref {T : TabS} {fs : List FrS} (h : TabOk T fs) (n : Int) : TabOk T (unrefF fs n) := by
  unfold unrefF
  split
  · rename_i he
    refine h.upd n (fun f => { f with refs := f.refs - 1 }) (fun f => ⟨rfl, rfl⟩) (fun f hf => ?_)
    have := h.refs n f hf
    rcases findV_cases fs n false with ⟨h1, _⟩ | ⟨_, f', hg, h0, _⟩
    · exact absurd he h1
    · rw [hf] at hg; cases hg
      have : ¬ f.refs = 0 := fun e => by simpa using h0 e
      simp only []; omega
  · exact h
theorem noData_unref {fs : List FrS} (h : NoData fs) (n : Int) : NoData (unrefF fs n) := by
  unfold unrefF
  split
  · intro m f hm
    rw [getF_updF fs n (fun f => { f with refs := f.refs - 1 }) (fun _ => rfl)] at hm
    split at hm
    · obtain ⟨f0, h0, rfl⟩ := Option.map_eq_some_iff.1 hm
      exact h n f0 h0
    · exact h m f hm
  · exact h

/-! ### What is found is different -/
theorem idxN_neg : ∀ {l : List Nat} {v i : Int}, 0 ≤ i → ¬ idxN l v i ≥ 0 → ∀ x ∈ l, ¬ v = (x : Int)
  | [], v, i, _, _, x, hx => by cases hx
  | y :: l, v, i, hi, h, x, hx => by
    simp only [idxN] at h
    split at h
    · omega
    · rename_i hv
      rcases List.mem_cons.1 hx with rfl | hx
      · exact hv
      · exact idxN_neg (by omega) h x hx
theorem nodup_of_dup {l : List Nat} (h : dupB l = false) : l.Nodup := by
  rw [List.nodup_iff_pairwise_ne, List.pairwise_iff_getElem]
  intro i j hi hj hij
  simp only [dupB, List.any_eq_false, List.mem_range, decide_eq_true_eq] at h
  have h1 := h j hj
  unfold dupAt at h1
  rw [List.getElem?_eq_getElem hj, Option.getD_some] at h1
  have h2 := idxN_neg (Int.le_refl 0) h1 l[i] (List.mem_of_getElem? (i := i) (by rw [List.getElem?_take, if_pos hij]; exact List.getElem?_eq_getElem hi))
  omega
theorem genL_nodup : ∀ {ps : List PoolS} {k : Nat}, (genL ps k).Nodup
  | [], k => by simp [genL]
  | p :: l, k => by
    simp only [genL]
    split
    · rw [List.nodup_cons]; exact ⟨fun h => by have := genL_mem h; omega, genL_nodup⟩
    · exact genL_nodup
theorem askL_nodup {ps : List PoolS} {names : List ByteArray} : (askL ps names).Nodup := by
  unfold askL
  split
  · exact genL_nodup
  · rename_i h0
    split
    · rename_i h
      unfold askE at h
      rw [if_neg h0] at h
      split at h
      · omega
      · cases hl : lookL ps names with
        | none => simp
        | some o =>
          rw [hl] at h
          simp only [] at h
          split at h
          · omega
          · rename_i hd; exact nodup_of_dup (by simpa using hd)
    · simp
theorem rangeI_nodup (a : Int) (k : Nat) : (rangeI a k).Nodup := by
  rw [List.nodup_iff_pairwise_ne, List.pairwise_iff_getElem]
  intro i j hi hj hij
  simp only [rangeI, List.getElem_map, List.getElem_range]
  omega
theorem rangeI_add (a : Int) : ∀ (k m : Nat), rangeI a (k + m) = rangeI a k ++ rangeI (a + k) m
  | k, 0 => by simp [rangeI]
  | k, m + 1 => by
    rw [← Nat.add_assoc, rangeI_succ, rangeI_add a k m, rangeI_succ, List.append_assoc]
    congr 3; omega
/-- The free frames of a pool, in order. -/
theorem flatR_runs (fr : Int → Bool) : ∀ (q : Nat) (n e : Int), (e - n).toNat ≤ q → flatR (runsL fr (e - n).toNat n e) = (rangeI n (e - n).toNat).filter fr
  | q, n, e, hq => by
    by_cases hn : n < e
    · have hs := scanF_ge fr (e - n).toNat n
      have hf := fun j => scanF_free fr (e - n).toNat n j
      have hm : scanF fr (e - n).toNat n = e ∨ fr (scanF fr (e - n).toNat n) = false := scanF_end fr (e - n).toNat n e (by omega)
      generalize hmm : scanF fr (e - n).toNat n = m at hs hf hm
      rw [runsL_step fr hn hmm]
      have h1 : flatR (if n < m then [(n, m)] else []) = (rangeI n (m - n).toNat).filter fr := by
        have h2 : (rangeI n (m - n).toNat).filter fr = rangeI n (m - n).toNat := List.filter_eq_self.2 (fun j hj => by
          rw [mem_rangeI] at hj; exact hf j hj.1 (by omega))
        rw [h2]
        split
        · simp [flatR]
        · rw [show (m - n).toNat = 0 by omega]; rfl
      have happ : flatR ((if n < m then [(n, m)] else []) ++ runsL fr (e - (m + 1)).toNat (m + 1) e) = flatR (if n < m then [(n, m)] else []) ++ flatR (runsL fr (e - (m + 1)).toNat (m + 1) e) := by simp [flatR]
      rw [happ, h1]
      by_cases hme : m = e
      · subst hme
        rw [runsL_end fr (by omega)]
        simp [flatR]
      · have hlt : m < e := by omega
        match q, hq with
        | 0, hq => omega
        | q + 1, hq =>
          rw [flatR_runs fr q (m + 1) e (by omega)]
          have e1 : (e - n).toNat = (m - n).toNat + (1 + (e - (m + 1)).toNat) := by omega
          rw [e1, rangeI_add, List.filter_append, rangeI_add, List.filter_append]
          have e2 : n + ((m - n).toNat : Int) = m := by omega
          rw [e2]
          have e3 : (rangeI m 1).filter fr = [] := by
            rw [List.filter_eq_nil_iff]
            intro j hj
            rw [mem_rangeI] at hj
            obtain rfl : j = m := by omega
            rcases hm with hm | hm
            · omega
            · simp [hm]
          rw [e3, List.nil_append]
          rfl
    · rw [runsL_end fr hn, show (e - n).toNat = 0 by omega]; rfl
where
  scanF_end (fr : Int → Bool) : ∀ (k : Nat) (n e : Int), e = n + k → scanF fr k n = e ∨ fr (scanF fr k n) = false
    | 0, n, e, h => by left; simp only [scanF]; omega
    | k + 1, n, e, h => by
      simp only [scanF]
      split
      · exact scanF_end fr k (n + 1) e (by omega)
      · rename_i hn; right; simpa using hn
theorem freeL_eq (fs : List FrS) (p : PoolS) : freeL fs p = (rangeI p.first p.count.toNat).filter (freeB fs) := by
  unfold freeL runsP
  rw [flatR_runs (freeB fs) _ _ _ (Nat.le_refl _)]
  rw [show p.first + p.count - p.first = p.count by omega]
theorem singP_nodup {fs : List FrS} {p : PoolS} {top : Bool} : (singP fs top p).Nodup := by
  have : (freeL fs p).Nodup := by rw [freeL_eq fs p]; exact List.Nodup.sublist List.filter_sublist (rangeI_nodup _ _)
  unfold singP; split
  · exact (List.reverse_perm _).nodup_iff.2 this
  · exact this
theorem singL_nodup {T : TabS} {fs : List FrS} (ht : TabOk T fs) {top : Bool} {cnt : Int} : ∀ {l : List Nat} {out : List Int}, l.Nodup → out.Nodup → (∀ n ∈ out, ∀ i ∈ l, ∀ p, T.pools[i]? = some p → ¬ inP p n) → (singL T.pools fs top cnt l out).Nodup
  | [], out, _, h, _ => h
  | i :: l, out, hl, ho, hx => by
    simp only [singL]
    rw [List.nodup_cons] at hl
    refine singL_nodup ht hl.2 ?_ ?_
    · split
      · exact ho
      · rename_i p hp
        rw [List.nodup_append]
        refine ⟨ho, List.Nodup.sublist (List.take_sublist _ _) singP_nodup, ?_⟩
        intro a ha b hb e
        subst e
        have hb' := List.mem_of_mem_take hb
        have hin : inP p a := by
          unfold singP at hb'
          split at hb'
          · have := mem_freeL (List.mem_reverse.1 hb'); exact ⟨this.1, this.2.1⟩
          · have := mem_freeL hb'; exact ⟨this.1, this.2.1⟩
        exact hx a ha i (by simp) p hp hin
    · intro n hn j hj q hq hin
      split at hn
      · exact hx n hn j (by simp [hj]) q hq hin
      · rename_i p hp
        rcases List.mem_append.1 hn with hn | hn
        · exact hx n hn j (by simp [hj]) q hq hin
        · have hb' := List.mem_of_mem_take hn
          have hin2 : inP p n := by
            unfold singP at hb'
            split at hb'
            · have := mem_freeL (List.mem_reverse.1 hb'); exact ⟨this.1, this.2.1⟩
            · have := mem_freeL hb'; exact ⟨this.1, this.2.1⟩
          obtain ⟨f, hf, hfi⟩ := ht.cov i p n hp hin2.1 hin2.2
          obtain ⟨g, hg, hgj⟩ := ht.cov j q n hq hin.1 hin.2
          rw [hf] at hg; cases hg
          rw [hfi] at hgj; subst hgj
          exact hl.1 hj
theorem foundL_nodup {T : TabS} {fs : List FrS} (ht : TabOk T fs) {r : ReqS} : (foundL T.pools fs r).Nodup := by
  unfold foundL
  split
  · cases runV T.pools fs r.al r.cnt r.top (askL T.pools r.names) with
    | none => simp [runO]
    | some a => exact rangeI_nodup _ _
  · exact singL_nodup ht askL_nodup (by simp) (by intro n hn; cases hn)

/-! ### The sum -/
def posC (ml : List (Int × Int)) : Int := ((ml.filter fun x => decide (0 < x.2)).length : Int)
def usedP (fs : List FrS) (p : PoolS) : Int := p.count - sumR (runsP fs p)
def usedL (fs : List FrS) (p : PoolS) : List Int := (rangeI p.first p.count.toNat).filter fun n => !freeB fs n
theorem usedP_eq {fs : List FrS} {p : PoolS} (hc : 0 ≤ p.count) : usedP fs p = ((usedL fs p).length : Int) := by
  have h1 : ((freeL fs p).length : Int) = sumR (runsP fs p) := flatR_len runsP_lt
  rw [freeL_eq] at h1
  have h2 := List.length_eq_countP_add_countP (freeB fs) (l := rangeI p.first p.count.toNat)
  rw [rangeI_len, List.countP_eq_length_filter, List.countP_eq_length_filter] at h2
  have h3 : usedL fs p = (rangeI p.first p.count.toNat).filter (fun a => decide ¬ freeB fs a = true) := by
    unfold usedL; congr 1; funext n; cases freeB fs n <;> rfl
  unfold usedP
  rw [h3]
  omega
theorem valM_pos {ml : List (Int × Int)} (h : (ml.map (·.1)).Nodup) {n : Int} : n ∈ (ml.filter fun x => decide (0 < x.2)).map (·.1) ↔ 0 < valM ml n := by
  induction ml with
  | nil => simp [valM]
  | cons x l ih =>
    simp only [List.map_cons, List.nodup_cons] at h
    have ih := ih h.2
    simp only [valM]
    by_cases hn : n = x.1
    · subst hn
      rw [if_pos rfl]
      by_cases hx : 0 < x.2
      · simp [hx]
      · simp only [List.filter_cons, decide_eq_true_eq, if_neg hx]
        constructor
        · intro hm
          obtain ⟨y, hy, e⟩ := List.mem_map.1 hm
          exact (h.1 (List.mem_map.2 ⟨y, (List.mem_filter.1 hy).1, e⟩)).elim
        · intro h1; exact absurd h1 hx
    · rw [if_neg hn, ← ih]
      by_cases hx : 0 < x.2
      · simp [hx, hn]
      · simp [hx]
theorem nodup_flatMap {α β : Type} {f : α → List β} : ∀ {l : List α}, (∀ x ∈ l, (f x).Nodup) → (∀ (i j : Nat) (x y : α) (b : β), l[i]? = some x → l[j]? = some y → b ∈ f x → b ∈ f y → i = j) → (l.flatMap f).Nodup
  | [], _, _ => by simp
  | x :: l, h1, h2 => by
    rw [List.flatMap_cons, List.nodup_append]
    refine ⟨h1 x (by simp), nodup_flatMap (fun y hy => h1 y (by simp [hy])) (fun i j y z b hi hj hb hc => by
      have := h2 (i + 1) (j + 1) y z b (by simpa using hi) (by simpa using hj) hb hc; omega), ?_⟩
    intro a ha b hb e
    subst e
    obtain ⟨y, hy, hay⟩ := List.mem_flatMap.1 hb
    obtain ⟨j, hj⟩ := List.getElem?_of_mem hy
    have := h2 0 (j + 1) x y a rfl (by simpa using hj) ha hay
    omega
theorem length_flatMap_sum {α β : Type} (f : α → List β) : ∀ (l : List α), ((l.flatMap f).length : Int) = (l.map fun x => ((f x).length : Int)).sum
  | [] => rfl
  | x :: l => by rw [List.flatMap_cons, List.length_append, List.map_cons, List.sum_cons, ← length_flatMap_sum f l]; omega
theorem mem_usedL {fs : List FrS} {p : PoolS} (hc : 0 ≤ p.count) {n : Int} : n ∈ usedL fs p ↔ inP p n ∧ freeB fs n = false := by
  unfold usedL
  rw [List.mem_filter, mem_rangeI]
  simp only [inP, Bool.not_eq_true']
  constructor
  · rintro ⟨h1, h2⟩; exact ⟨⟨h1.1, by omega⟩, h2⟩
  · rintro ⟨h1, h2⟩; exact ⟨⟨h1.1, by omega⟩, h2⟩
theorem pos_sum {T : TabS} {fs : List FrS} {ml : List (Int × Int)} (ht : TabOk T fs) (h : InvA fs ml) (hd : DisjP T.pools) : posC ml = (T.pools.map (usedP fs)).sum := by
  have hps : ∀ p ∈ T.pools, 0 ≤ p.count := by
    intro p hp
    obtain ⟨i, hi⟩ := List.getElem?_of_mem hp
    have := ht.ps i p hi; omega
  have h1 : (T.pools.map (usedP fs)).sum = ((T.pools.flatMap (usedL fs)).length : Int) := by
    rw [length_flatMap_sum]
    congr 1
    exact List.map_congr_left (fun p hp => usedP_eq (hps p hp))
  rw [h1]
  unfold posC
  have h2 : ((ml.filter fun x => decide (0 < x.2)).map (·.1)).Perm (T.pools.flatMap (usedL fs)) := by
    refine (List.perm_ext_iff_of_nodup ?_ ?_).2 ?_
    · exact List.Nodup.sublist (List.Sublist.map _ List.filter_sublist) h.k
    · refine nodup_flatMap (fun p hp => List.Nodup.sublist List.filter_sublist (rangeI_nodup _ _)) ?_
      intro i j p q n hi hj hp hq
      exact hd i j p q n hi hj ((mem_usedL (hps p (List.mem_of_getElem? hi))).1 hp).1 ((mem_usedL (hps q (List.mem_of_getElem? hj))).1 hq).1
    · intro n
      rw [valM_pos h.k, h.v, List.mem_flatMap]
      constructor
      · intro hn
        unfold rf at hn
        cases hg : getF fs n with
        | none => rw [hg] at hn; simp at hn
        | some f =>
          rw [hg] at hn
          simp only [] at hn
          obtain ⟨p, hp, h3, h4⟩ := ht.cov2 n f hg
          exact ⟨p, List.mem_of_getElem? hp, (mem_usedL (hps p (List.mem_of_getElem? hp))).2 ⟨⟨h3, h4⟩, freeB_false hg (by omega)⟩⟩
      · rintro ⟨p, hp, hn⟩
        obtain ⟨hin, hfr⟩ := (mem_usedL (hps p hp)).1 hn
        obtain ⟨i, hi⟩ := List.getElem?_of_mem hp
        obtain ⟨f, hf, _⟩ := ht.cov i p n hi hin.1 hin.2
        have hu := h.u n f hf
        have : ¬ f.refs = 0 := fun e => by rw [freeB_true hf e] at hfr; cases hfr
        unfold rf; rw [hf]; simp only []; omega
  have h3 := h2.length_eq
  rw [List.length_map] at h3
  omega
theorem maxR_le {rs : List (Int × Int)} (h : ∀ c ∈ rs, c.1 < c.2) : 0 ≤ maxR rs ∧ maxR rs ≤ sumR rs := by
  suffices ∀ (rs : List (Int × Int)) (m s : Int), 0 ≤ m → m ≤ s → (∀ c ∈ rs, c.1 < c.2) → 0 ≤ rs.foldl (fun m c => if c.2 - c.1 > m then c.2 - c.1 else m) m ∧ rs.foldl (fun m c => if c.2 - c.1 > m then c.2 - c.1 else m) m ≤ s + sumR rs by
    have := this rs 0 0 (Int.le_refl _) (Int.le_refl _) h
    unfold maxR; omega
  intro rs
  induction rs with
  | nil => intro m s h0 h1 _; simp only [List.foldl_nil, sumR, List.foldr_nil]; omega
  | cons c rs ih =>
    intro m s h0 h1 h
    have hc := h c (by simp)
    have := ih (if c.2 - c.1 > m then c.2 - c.1 else m) (s + (c.2 - c.1)) (by split <;> omega) (by split <;> omega) (fun x hx => h x (by simp [hx]))
    simp only [List.foldl_cons, sumR, List.foldr_cons] at *
    omega
theorem idxOf_self {ps : List PoolS} (hn : NamesD ps) {i : Nat} {p : PoolS} (hi : ps[i]? = some p) : idxOf ps p.name = some i := by
  have h1 := idxOf_has (List.mem_of_getElem? hi) rfl
  cases hx : idxOf ps p.name with
  | none => rw [hx] at h1; cases h1
  | some j =>
    obtain ⟨_, q, hq, hqn⟩ := idxOf_some hx
    rw [hn j i q p hq hi hqn]
theorem usage_self {ps : List PoolS} {fs : List FrS} (hn : NamesD ps) {i : Nat} {p : PoolS} (hi : ps[i]? = some p) :
    usageV ps fs p.name = .tuple #[.agg #[.int .i64 (sumR (runsP fs p)), .int .i64 (p.count - sumR (runsP fs p)), .int .i64 (maxR (runsP fs p))], .int .i64 0] := by
  unfold usageV; rw [idxOf_self hn hi]; simp only []; rw [hi]

/-! ### The loop over the counts -/
theorem ents_get : ∀ {ml : List (Int × Int)} {k : Nat} {x : Int × Value × Nat}, x ∈ ents ml k → ∃ (z : Int) (j : Nat), x = (x.1, .int .i64 z, k + j) ∧ ml[j]? = some (x.1, z)
  | [], k, x, h => by cases h
  | y :: l, k, x, h => by
    simp only [ents, List.mem_cons] at h
    rcases h with rfl | h
    · exact ⟨y.2, 0, rfl, rfl⟩
    · obtain ⟨z, j, h1, h2⟩ := ents_get h
      exact ⟨z, j + 1, by rw [h1]; simp only []; congr 2; omega, by simpa using h2⟩
theorem ents_born : ∀ {ml : List (Int × Int)} {k : Nat}, ∀ x ∈ ents ml k, x.2.2 < k + ml.length := by
  intro ml k x h
  obtain ⟨z, j, h1, h2⟩ := ents_get h
  have := (List.getElem?_eq_some_iff.1 h2).1
  rw [h1]; simp only []; omega
theorem ents_borns : ∀ (ml : List (Int × Int)) (k : Nat), (ents ml k).map (·.2.2) = List.range' k ml.length
  | [], k => rfl
  | x :: l, k => by simp only [ents, List.map_cons, List.length_cons, List.range'_succ, ents_borns l (k + 1)]
theorem ents_nd (ml : List (Int × Int)) (k : Nat) : ((ents ml k).map (·.2.2)).Nodup := by rw [ents_borns]; exact List.nodup_range'
def posV (ml : List (Int × Int)) (vis : List Nat) : Int := ((vis.filter fun c => decide (0 < ((ml[c]?.map (·.2)).getD 0))).length : Int)
theorem posV_snoc (ml : List (Int × Int)) (vis : List Nat) {c : Nat} {x : Int × Int} (h : ml[c]? = some x) : posV ml (vis ++ [c]) = posV ml vis + if 0 < x.2 then 1 else 0 := by
  unfold posV
  rw [List.filter_append, List.length_append]
  by_cases hx : 0 < x.2
  · simp [h, hx]
  · simp [h, hx]
theorem posV_end {ml : List (Int × Int)} {vis : List Nat} (hn : vis.Nodup) (hl : ∀ c ∈ vis, c < ml.length) (h : ∀ x ∈ ents ml 0, x.2.2 ∈ vis.toArray) : posV ml vis = posC ml := by
  have h1 : vis.Perm (List.range ml.length) := by
    refine (List.perm_ext_iff_of_nodup hn List.nodup_range).2 (fun c => ?_)
    rw [List.mem_range]
    refine ⟨hl c, fun hc => ?_⟩
    have h2 : c ∈ (ents ml 0).map (·.2.2) := by rw [ents_borns, List.mem_range']; exact ⟨c, hc, by omega⟩
    obtain ⟨x, hx, rfl⟩ := List.mem_map.1 h2
    simpa using h x hx
  unfold posV posC
  rw [(h1.filter _).length_eq]
  have h2 : ((List.range ml.length).map fun c => (ml[c]?.getD (0, 0))) = ml := by
    apply List.ext_getElem
    · simp
    · intro i h3 h4
      simp only [List.getElem_map, List.getElem_range, List.getElem?_eq_getElem h4, Option.getD_some]
  conv => rhs; rw [← h2]
  rw [List.filter_map, List.length_map]
  congr 2
  refine List.filter_congr (fun c hc => ?_)
  rw [List.mem_range] at hc
  simp [List.getElem?_eq_getElem hc]
theorem posC_len (ml : List (Int × Int)) : 0 ≤ posC ml ∧ posC ml ≤ ml.length := by
  unfold posC
  have := List.length_filter_le (fun x : Int × Int => decide (0 < x.2)) ml
  omega
theorem posV_len (ml : List (Int × Int)) (vis : List Nat) : 0 ≤ posV ml vis ∧ posV ml vis ≤ vis.length := by
  unfold posV
  have := List.length_filter_le (fun c => decide (0 < ((ml[c]?.map (·.2)).getD 0))) vis
  omega
theorem setM_len (ml : List (Int × Int)) (n v : Int) : (setM ml n v).length ≤ ml.length + 1 := by
  induction ml with
  | nil => simp [setM]
  | cons x l ih => simp only [setM]; split <;> simp <;> omega
theorem setA_len : ∀ (l : List Int) (ml : List (Int × Int)), (setA ml l).length ≤ ml.length + l.length
  | [], ml => by simp [setA]
  | n :: l, ml => by
    have h1 := setA_len l (setM ml n 1)
    have h2 := setM_len ml n 1
    show (setA (setM ml n 1) l).length ≤ _
    simp only [List.length_cons]; omega
theorem small_pools {l : List ActS} (h : smallB l = true) : l.length ≤ 60 ∧ ∀ x ∈ l, x.pools.length ≤ 20 := by
  unfold smallB at h
  rw [Bool.and_eq_true, decide_eq_true_eq, List.all_eq_true] at h
  refine ⟨h.2, fun x hx => ?_⟩
  have := h.1 x hx
  unfold actOk at this
  rw [Bool.and_eq_true, Bool.and_eq_true, decide_eq_true_eq] at this
  exact this.1.1
theorem allocE_b {ps : List PoolS} {fs : List FrS} {r : ReqS} (he : allocE ps fs r = 0) : 1 ≤ r.cnt ∧ r.cnt ≤ 4096 ∧ 1 ≤ r.al ∧ ¬ ((foundL ps fs r).length : Int) < r.cnt := by
  unfold allocE at he
  split at he
  · omega
  · rename_i h1
    split at he
    · omega
    · rename_i h2
      split at he
      · omega
      · split at he
        · omega
        · rename_i h4; unfold badAl at h2; omega
theorem allocO_len {ps : List PoolS} {fs : List FrS} {r : ReqS} (he : allocE ps fs r = 0) : ((allocO ps fs r).length : Int) = r.cnt := by
  have h := allocE_b he
  have h2 := foundL_len (ps := ps) (fs := fs) (r := r) h.1
  unfold allocO; rw [if_pos he]; omega
theorem allocO_ok {T : TabS} {fs : List FrS} (ht : TabOk T fs) {r : ReqS} : (allocO T.pools fs r).Nodup ∧ (∀ k ∈ allocO T.pools fs r, rf fs k = 0) ∧ (allocO T.pools fs r).length ≤ 4096 := by
  by_cases he : allocE T.pools fs r = 0
  · have h := allocE_b he
    have h2 := foundL_len (ps := T.pools) (fs := fs) (r := r) h.1
    unfold allocO; rw [if_pos he]
    refine ⟨foundL_nodup ht, fun k hk => ?_, by omega⟩
    obtain ⟨_, _, _, _, _, _, hf⟩ := mem_foundL ht h.1 h.2.2.1 hk
    exact free_rf hf
  · unfold allocO; rw [if_neg he]; simp
theorem invA_allocO {T : TabS} {fs : List FrS} {ml : List (Int × Int)} (ht : TabOk T fs) (h : InvA fs ml) (r : ReqS) : InvA (allocF T.pools fs (allocO T.pools fs r)) (setA ml (allocO T.pools fs r)) := by
  by_cases he : allocE T.pools fs r = 0
  · unfold allocO; rw [if_pos he]; exact invA_alloc ht h he
  · unfold allocO; rw [if_neg he]; exact h
theorem val0 {fs : List FrS} {ml : List (Int × Int)} (h : InvA fs ml) {l : List Int} {j : Nat} {k : Int} (hn : l.Nodup) (hf : ∀ k ∈ l, rf fs k = 0) (hk : l[j]? = some k) : valM (setA ml (l.take j)) k = 0 := by
  rw [valM_setA, if_neg, h.v, hf k (List.mem_of_getElem? hk)]
  intro hm
  obtain ⟨i, hi⟩ := List.getElem?_of_mem hm
  rw [List.getElem?_take] at hi
  split at hi
  · rename_i hij
    obtain ⟨h1, h2⟩ := List.getElem?_eq_some_iff.1 hi
    obtain ⟨h3, h4⟩ := List.getElem?_eq_some_iff.1 hk
    have := (List.getElem_inj hn).1 (h2.trans h4.symm)
    omega
  · cases hi
theorem used_sum {T : TabS} {fs : List FrS} (ht : TabOk T fs) (i : Nat) : 0 ≤ ((T.pools.drop i).map (usedP fs)).sum ∧ ((T.pools.drop i).map (usedP fs)).sum ≤ 4096 * 16 := by
  have key : ∀ (l : List PoolS), (∀ p ∈ l, 0 ≤ usedP fs p ∧ usedP fs p ≤ 4096) → 0 ≤ (l.map (usedP fs)).sum ∧ (l.map (usedP fs)).sum ≤ 4096 * l.length := by
    intro l
    induction l with
    | nil => intro _; simp
    | cons p l ih =>
      intro h
      have h1 := h p (by simp)
      have h2 := ih (fun q hq => h q (by simp [hq]))
      simp only [List.map_cons, List.sum_cons, List.length_cons]; omega
  have h := key (T.pools.drop i) (fun p hp => by
    obtain ⟨j, hj⟩ := List.getElem?_of_mem (List.mem_of_mem_drop hp)
    have hps := ht.ps j p hj
    have := runsP_sum (fs := fs) (p := p) (by omega)
    unfold usedP; omega)
  have hl := ht.len
  rw [List.length_drop] at h
  omega
theorem few_len {ps : List PoolS} (h : fewB ps = true) : ps.length ≤ 20 := by
  unfold fewB at h
  rw [Bool.and_eq_true, decide_eq_true_eq] at h; exact h.2
theorem vis_le {n : Nat} {vis : List Nat} (hn : vis.Nodup) (hl : ∀ c ∈ vis, c < n) : vis.length ≤ n := by
  have h := List.Nodup.length_le_of_subset hn (l₂ := List.range n) (fun c hc => List.mem_range.2 (hl c hc))
  simpa using h
theorem vis_len {n c : Nat} {vis : List Nat} (hn : vis.Nodup) (hl : ∀ c ∈ vis, c < n) (hc : c < n) (h : c ∉ vis) : vis.length < n := by
  have h1 := vis_le (n := n) (vis := c :: vis) (List.nodup_cons.2 ⟨h, hn⟩) (fun q hq => (List.mem_cons.1 hq).elim (fun e => e ▸ hc) (hl q))
  rw [List.length_cons] at h1; omega
theorem valM_of {ml : List (Int × Int)} (h : (ml.map (·.1)).Nodup) {k z : Int} (hm : (k, z) ∈ ml) : valM ml k = z := by
  induction ml with
  | nil => cases hm
  | cons x l ih =>
    simp only [List.map_cons, List.nodup_cons] at h
    simp only [valM]
    rcases List.mem_cons.1 hm with rfl | hm
    · simp
    · rw [if_neg (fun e => h.1 (List.mem_map.2 ⟨(k, z), hm, e⟩)), ih h.2 hm]
theorem val_nonneg {fs : List FrS} {ml : List (Int × Int)} (h : InvA fs ml) {c : Nat} {k z : Int} (hm : ml[c]? = some (k, z)) : 0 ≤ z := by
  rw [← valM_of h.k (List.mem_of_getElem? hm), h.v]
  unfold rf
  cases hg : getF fs k with
  | none => simp
  | some f => exact (h.u k f hg).1
end Go.Sx.Fr
