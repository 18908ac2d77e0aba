/- Plain laws on New: the error of pools, and the table that is made. -/
import Derived.Test.YtinpojleegfadaaFt
set_option linter.unusedVariables false
set_option linter.unusedSimpArgs false
namespace Go.Sx.Fr
open Go
/-! ### 'New' -/
def nameL : List PoolS → Nat → List (ByteArray × Value × Nat)
  | [], _ => []
  | p :: l, i => (p.name, .int .i64 (i : Int), i) :: nameL l (i + 1)
theorem lk_nameL (s : ByteArray) : ∀ (ps : List PoolS) (k : Nat), lkM (nameL ps k) s = (idxOf ps s).map fun i => .int .i64 ((i + k : Nat) : Int)
  | [], k => rfl
  | p :: l, k => by
    simp only [nameL, lkM, idxOf]
    split
    · simp
    · rw [lk_nameL s l (k + 1), Option.map_map]
      cases idxOf l s with
      | none => rfl
      | some i => simp only [Option.map_some, Function.comp]; congr 3; omega
theorem nameL_snoc (p : PoolS) : ∀ (ps : List PoolS) (k : Nat), nameL (ps ++ [p]) k = nameL ps k ++ [(p.name, .int .i64 ((ps.length + k : Nat) : Int), ps.length + k)]
  | [], k => by simp [nameL]
  | q :: l, k => by
    simp only [List.cons_append, nameL, nameL_snoc p l (k + 1), List.length_cons]
    rw [show l.length + (k + 1) = l.length + 1 + k by omega]
theorem inM_new {κ : Type} [DecidableEq κ] (k : κ) (v : Value) (c : Nat) : ∀ (l : List (κ × Value × Nat)), lkM l k = none → inM l k v c = l ++ [(k, v, c)]
  | [], _ => rfl
  | x :: l, h => by
    simp only [lkM] at h
    split at h
    · cases h
    · rename_i hk; simp only [inM, if_neg hk, inM_new k v c l h, List.cons_append]
theorem nameL_in {pre : List PoolS} {p : PoolS} (h : idxOf pre p.name = none) : inM (nameL pre 0) p.name (.int .i64 (pre.length : Int)) pre.length = nameL (pre ++ [p]) 0 := by
  rw [inM_new _ _ _ _ (by rw [lk_nameL, h]; rfl), nameL_snoc]; rfl
def bld (B : TabS) (pre : List PoolS) (fs : List FrS) : TabS := { B with il := nameL pre 0, ic := pre.length, es := fs.map FrS.ent, fc := fs.length }
def inP (q : PoolS) (n : Int) : Prop := q.first ≤ n ∧ n < q.first + q.count
def hits (p q : PoolS) : Bool := decide (p.first < q.first + q.count ∧ q.first < p.first + p.count)
def errP (pre : List PoolS) (p : PoolS) : Int :=
  if p.name.size > 64 then 21 else if p.name.size = 0 then 9 else if (idxOf pre p.name).isSome = true then 38
  else if p.count < 1 ∨ p.first < 0 ∨ p.count > 4096 ∨ p.first > 4096 - p.count then 34 else if pre.any (hits p) = true then 10 else 0
def goE : List PoolS → List PoolS → Int
  | _, [] => 0
  | pre, p :: l => if errP pre p ≠ 0 then errP pre p else goE (pre ++ [p]) l
def newE (ps : List PoolS) : Int := if ps.length = 0 then 9 else if ps.length > 16 then 18 else goE [] ps
/-- Nothing but the frames of the pools so far, all free. -/
def FsNew (pre : List PoolS) (fs : List FrS) : Prop := ∀ n, (getF fs n = none ∧ ∀ q ∈ pre, ¬ inP q n) ∨ ∃ f q, getF fs n = some f ∧ pre[f.pool]? = some q ∧ inP q n ∧ f.refs = 0 ∧ f.data = none
def PoolsB (pre : List PoolS) : Prop := ∀ q ∈ pre, 0 ≤ q.first ∧ 1 ≤ q.count ∧ q.first + q.count ≤ 4096
def cutP (p : PoolS) (k : Int) : PoolS := { p with count := k }
def newF (n : Int) (b c i : Nat) : FrS := ⟨n, b, c, 0, i, none⟩
theorem getF_append (fs : List FrS) (f : FrS) (n : Int) : getF (fs ++ [f]) n = (getF fs n).or (if n = f.n then some f else none) := by
  induction fs with
  | nil => simp [getF]
  | cons x l ih => simp only [List.cons_append, getF]; split <;> simp [ih]
theorem ent_in {fs : List FrS} {n : Int} {b i : Nat} (h : getF fs n = none) : inM (fs.map FrS.ent) n (.pointer (some ⟨b, 0, none⟩)) fs.length = (fs ++ [newF n b fs.length i]).map FrS.ent := by
  rw [inM_new _ _ _ _ (by rw [lk_fr, h]; rfl)]; simp [FrS.ent, newF]
theorem frB_new (fs : List FrS) (n : Int) (b c i : Nat) : frB (fs ++ [newF n b c i]) = frB fs ++ [(b, .cells #[.int .i64 0, .int .i64 (i : Int), .pointer none] 70)] := by
  rw [frB_append]; rfl
theorem fsNew_start {pre : List PoolS} {fs : List FrS} {p : PoolS} (h : FsNew pre fs) : FsNew (pre ++ [cutP p 0]) fs := by
  intro n
  rcases h n with ⟨h1, h2⟩ | ⟨f, q, h1, h2, h3⟩
  · refine .inl ⟨h1, fun q hq => ?_⟩
    rcases List.mem_append.1 hq with hq | hq
    · exact h2 q hq
    · simp only [List.mem_singleton] at hq; subst hq; simp only [inP, cutP]; omega
  · exact .inr ⟨f, q, h1, by rw [List.getElem?_append_left (List.getElem?_eq_some_iff.1 h2).1]; exact h2, h3⟩
theorem fsNew_step {pre : List PoolS} {fs : List FrS} {p : PoolS} {n : Int} {b : Nat} (hn : p.first ≤ n) (h : FsNew (pre ++ [cutP p (n - p.first)]) fs) (hg : getF fs n = none) :
    FsNew (pre ++ [cutP p (n + 1 - p.first)]) (fs ++ [newF n b fs.length pre.length]) := by
  intro m
  rw [getF_append]
  rcases h m with ⟨h1, h2⟩ | ⟨f, q, h1, h2, h3, h4⟩
  · rw [h1]
    by_cases hm : m = n
    · subst hm
      refine .inr ⟨newF m b fs.length pre.length, cutP p (m + 1 - p.first), by simp [newF], by simp [newF], ?_, rfl, rfl⟩
      simp only [inP, cutP]; omega
    · refine .inl ⟨by simp [newF, hm], fun q hq => ?_⟩
      rcases List.mem_append.1 hq with hq | hq
      · exact h2 q (by simp [hq])
      · simp only [List.mem_singleton] at hq; subst hq
        have := h2 (cutP p (n - p.first)) (by simp)
        simp only [inP, cutP] at this ⊢; omega
  · rw [h1]
    refine .inr ⟨f, if f.pool = pre.length then cutP p (n + 1 - p.first) else q, by simp, ?_, ?_, h4⟩
    · by_cases hp : f.pool = pre.length
      · rw [if_pos hp, hp]; simp
      · rw [if_neg hp]
        have hl := (List.getElem?_eq_some_iff.1 h2).1
        simp only [List.length_append, List.length_singleton] at hl
        rw [List.getElem?_append_left (by omega)] at h2 ⊢; exact h2
    · by_cases hp : f.pool = pre.length
      · rw [if_pos hp]
        rw [hp] at h2; simp at h2; subst h2
        simp only [inP, cutP] at h3 ⊢; omega
      · rw [if_neg hp]; exact h3
theorem cutP_full (p : PoolS) : cutP p p.count = p := rfl
/-- A frame that is there already: two pools meet. -/
theorem hits_of {pre : List PoolS} {fs : List FrS} {p : PoolS} {n : Int} {f : FrS} (hn : p.first ≤ n) (hn2 : n < p.first + p.count) (h : FsNew (pre ++ [cutP p (n - p.first)]) fs) (hg : getF fs n = some f) : pre.any (hits p) = true := by
  rcases h n with ⟨h1, _⟩ | ⟨g, q, h1, h2, h3, _⟩
  · rw [hg] at h1; cases h1
  · have hm := List.mem_of_getElem? h2
    rcases List.mem_append.1 hm with hm | hm
    · rw [List.any_eq_true]; refine ⟨q, hm, ?_⟩
      simp only [inP] at h3; simp only [hits, decide_eq_true_eq]; omega
    · simp only [List.mem_singleton] at hm; subst hm; simp only [inP, cutP] at h3; omega
theorem hits_no {pre : List PoolS} {p : PoolS} (hb : PoolsB pre) (hp : 1 ≤ p.count) (h : ∀ j, inP p j → ∀ q ∈ pre, ¬ inP q j) : pre.any (hits p) = false := by
  rw [List.any_eq_false]
  intro q hq hh
  simp only [hits, decide_eq_true_eq] at hh
  have hqb := hb q hq
  have h1 := h (max p.first q.first) (by simp only [inP]; omega) q hq
  simp only [inP] at h1; omega
theorem errP_name {pre : List PoolS} {p : PoolS} (h : ¬ errP pre p ≠ 0) : PoolsB pre → PoolsB (pre ++ [p]) := by
  intro hb q hq
  rcases List.mem_append.1 hq with hq | hq
  · exact hb q hq
  · simp only [List.mem_singleton] at hq; subst hq
    unfold errP at h
    split at h; · omega
    split at h; · omega
    split at h; · omega
    split at h
    · omega
    · rename_i h4; omega
theorem none_no {pre : List PoolS} {fs : List FrS} {r : PoolS} {n : Int} (h : FsNew (pre ++ [r]) fs) (hg : getF fs n = none) : ∀ q ∈ pre, ¬ inP q n := by
  rcases h n with ⟨_, h2⟩ | ⟨f, q, h1, _⟩
  · exact fun q hq => h2 q (by simp [hq])
  · rw [hg] at h1; cases h1
def DisjP (xs : List PoolS) : Prop := ∀ (i j : Nat) (q r : PoolS) (n : Int), xs[i]? = some q → xs[j]? = some r → inP q n → inP r n → i = j
def NamesD (xs : List PoolS) : Prop := ∀ (i j : Nat) (q r : PoolS), xs[i]? = some q → xs[j]? = some r → q.name = r.name → i = j
structure PoolsOk (xs : List PoolS) : Prop where
  b : PoolsB xs
  d : DisjP xs
  n : NamesD xs
theorem errP_zero {pre : List PoolS} {p : PoolS} (h : ¬ errP pre p ≠ 0) : idxOf pre p.name = none ∧ (0 ≤ p.first ∧ 1 ≤ p.count ∧ p.first + p.count ≤ 4096) ∧ pre.any (hits p) = false := by
  unfold errP at h
  split at h; · omega
  split at h; · omega
  split at h; · omega
  rename_i h3
  split at h; · omega
  rename_i h4
  split at h; · omega
  rename_i h5
  exact ⟨by cases hi : idxOf pre p.name with | none => rfl | some j => rw [hi] at h3; simp at h3, by omega, by simpa using h5⟩
theorem idxOf_none : ∀ {ps : List PoolS} {s : ByteArray}, idxOf ps s = none → ∀ q ∈ ps, q.name ≠ s
  | [], s, _, q, hq => by cases hq
  | p :: l, s, h, q, hq => by
    simp only [idxOf] at h
    split at h
    · cases h
    · rename_i hs
      rcases List.mem_cons.1 hq with rfl | hq
      · exact fun e => hs e.symm
      · exact idxOf_none (Option.map_eq_none_iff.1 h) q hq
theorem get_snoc {α : Type} {l : List α} {p x : α} {i : Nat} (h : (l ++ [p])[i]? = some x) : (l[i]? = some x) ∨ (i = l.length ∧ x = p) := by
  by_cases hi : i < l.length
  · rw [List.getElem?_append_left hi] at h; exact .inl h
  · rw [List.getElem?_append_right (by omega)] at h
    have := (List.getElem?_eq_some_iff.1 h).1
    simp only [List.length_singleton] at this
    rw [show i - l.length = 0 by omega] at h
    simp at h; exact .inr ⟨by omega, h.symm⟩
theorem poolsOk_snoc {pre : List PoolS} {p : PoolS} (h : PoolsOk pre) (he : ¬ errP pre p ≠ 0) : PoolsOk (pre ++ [p]) := by
  obtain ⟨h1, h2, h3⟩ := errP_zero he
  have hdis : ∀ q ∈ pre, ∀ n, inP q n → ¬ inP p n := by
    intro q hq n ha hb
    rw [List.any_eq_false] at h3
    have := h3 q hq
    simp only [hits, decide_eq_true_eq] at this
    simp only [inP] at ha hb; omega
  refine ⟨errP_name he h.b, ?_, ?_⟩
  · intro i j q r n hi hj ha hb
    rcases get_snoc hi with hi' | ⟨hi', rfl⟩ <;> rcases get_snoc hj with hj' | ⟨hj', rfl⟩
    · exact h.d i j q r n hi' hj' ha hb
    · exact (hdis q (List.mem_of_getElem? hi') n ha hb).elim
    · exact (hdis r (List.mem_of_getElem? hj') n hb ha).elim
    · omega
  · intro i j q r hi hj hn
    rcases get_snoc hi with hi' | ⟨hi', rfl⟩ <;> rcases get_snoc hj with hj' | ⟨hj', rfl⟩
    · exact h.n i j q r hi' hj' hn
    · exact (idxOf_none h1 q (List.mem_of_getElem? hi') hn).elim
    · exact (idxOf_none h1 r (List.mem_of_getElem? hj') hn.symm).elim
    · omega
theorem goE_ok : ∀ {l pre : List PoolS}, PoolsOk pre → goE pre l = 0 → PoolsOk (pre ++ l)
  | [], pre, h, _ => by simpa using h
  | p :: l, pre, h, he => by
    simp only [goE] at he
    split at he
    · omega
    · rename_i h0
      have := goE_ok (l := l) (poolsOk_snoc h h0) he
      simpa using this
theorem newE_ok {xs : List PoolS} (h : newE xs = 0) : PoolsOk xs ∧ 0 < xs.length ∧ xs.length ≤ 16 := by
  unfold newE at h
  split at h; · omega
  split at h; · omega
  refine ⟨by simpa using goE_ok (pre := []) ⟨(by intro q hq; cases hq), (by intro i j q r n hi; simp at hi), (by intro i j q r hi; simp at hi)⟩ h, by omega, by omega⟩
theorem tabOk_new {T : TabS} {xs : List PoolS} {g : List FrS} (hp : T.pools = xs) (hil : T.il = nameL xs 0) (hes : T.es = g.map FrS.ent) (h : FsNew xs g) (hk : PoolsOk xs) (hl : xs.length ≤ 16) : TabOk T g ∧ NoData g ∧ ∀ n f, getF g n = some f → f.refs = 0 := by
  subst hp
  have hall : ∀ n f, getF g n = some f → ∃ q, T.pools[f.pool]? = some q ∧ inP q n ∧ f.refs = 0 ∧ f.data = none := by
    intro n f hf
    rcases h n with ⟨h1, _⟩ | ⟨f', q, h1, h2⟩
    · rw [hf] at h1; cases h1
    · rw [hf] at h1; cases h1; exact ⟨q, h2⟩
  refine ⟨⟨hes, fun s => by rw [hil, lk_nameL]; simp, fun i p hp => by have := hk.b p (List.mem_of_getElem? hp); omega, ?_, ?_, ?_, hl⟩, fun n f hf => (hall n f hf).choose_spec.2.2.2, fun n f hf => (hall n f hf).choose_spec.2.2.1⟩
  · intro i p n hp h1 h2
    rcases h n with ⟨_, h3⟩ | ⟨f, q, h3, h4, h5, _⟩
    · exact (h3 p (List.mem_of_getElem? hp) ⟨h1, h2⟩).elim
    · exact ⟨f, h3, hk.d f.pool i q p n h4 hp h5 ⟨h1, h2⟩⟩
  · intro n f hf
    obtain ⟨q, h1, h2, _⟩ := hall n f hf
    exact ⟨q, h1, h2.1, h2.2⟩
  · intro n f hf
    obtain ⟨q, _, _, h3, _⟩ := hall n f hf
    omega
theorem mem_take {α : Type} {l : List α} {i j : Nat} {x : α} (h : l[j]? = some x) (hj : j < i) : x ∈ l.take i := List.mem_of_getElem? (i := j) (by rw [List.getElem?_take, if_pos hj]; exact h)
theorem take_step {α : Type} {q : α → Prop} {l : List α} {i : Nat} {x : α} (h : ∀ y ∈ l.take i, q y) (hx : l[i]? = some x) (hq : q x) : ∀ y ∈ l.take (i + 1), q y := by
  intro y hy
  rw [List.take_add_one, hx] at hy
  rcases List.mem_append.1 hy with hy | hy
  · exact h y hy
  · simp only [Option.toList, List.mem_singleton] at hy; rw [hy]; exact hq
theorem idxOf_has : ∀ {ps : List PoolS} {q : PoolS} {s : ByteArray}, q ∈ ps → q.name = s → (idxOf ps s).isSome = true
  | p :: l, q, s, hq, hn => by
    simp only [idxOf]
    split
    · rfl
    · rename_i hs
      rcases List.mem_cons.1 hq with rfl | hq
      · exact absurd hn.symm hs
      · rw [Option.isSome_map]; exact idxOf_has hq hn
theorem idxOf_no {ps : List PoolS} {s : ByteArray} (h : ∀ q ∈ ps, ¬ s = q.name) : (idxOf ps s).isSome = false := by
  cases hi : idxOf ps s with
  | none => rfl
  | some i => obtain ⟨h1, q, h2, h3⟩ := idxOf_some hi; exact (h q (List.mem_of_getElem? h2) h3.symm).elim
end Go.Sx.Fr
