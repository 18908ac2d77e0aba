/- Plain laws on single frames and on the pools of a request. -/
import Derived.Test.YtinpojleegfadaaGa
import Derived.Test.YtinpojleegfadaaE2
set_option linter.unusedVariables false
set_option linter.unusedSimpArgs false
namespace Go.Proofs.Ytinpojleegfadaa
open Go Go.Sx Go.Sx.Fr
theorem pow2_all : ((List.range 4097).all fun n => pow2B (n : Int) == (decide (1 ≤ n) && decide (badB (n : Int) = 0))) = true := by kernel_rfl
theorem pow2_big {n : Int} (h : n > 4096) : pow2B n = false := pow2_no fun j hj e => by
  have : ∀ i < 13, (2 : Int) ^ i ≤ 4096 := by decide
  have := this j hj; omega
theorem pow2_neg {n : Int} (h : n < 1) : pow2B n = false := pow2_no fun j hj e => by
  have : (1 : Int) ≤ 2 ^ j := Int.pow_pos (by decide)
  omega
theorem pow2_iff (n : Int) : pow2B n = true ↔ (1 ≤ n ∧ n ≤ 4096) ∧ badB n = 0 := by
  by_cases h1 : 1 ≤ n ∧ n ≤ 4096
  · have := List.all_eq_true.1 pow2_all n.toNat (List.mem_range.2 (by omega))
    rw [show (n.toNat : Int) = n by omega, show decide (1 ≤ n.toNat) = true from decide_eq_true (by omega)] at this
    simp only [Bool.true_and, beq_iff_eq] at this
    rw [this]; simp [h1]
  · have : pow2B n = false := by
      by_cases h : n < 1
      · exact pow2_neg h
      · exact pow2_big (by omega)
    rw [this]; simp; omega
theorem badAl_iff (al : Int) (cg : Bool) : badAl al cg ↔ ¬ pow2B al = true ∨ (¬ cg = true ∧ ¬ al = 1) := by
  rw [pow2_iff]; unfold badAl
  constructor
  · rintro (h | h | h)
    · exact .inl (by omega)
    · exact .inl (fun e => h e.2)
    · exact .inr h
  · rintro (h | h)
    · by_cases h1 : badB al = 0
      · exact .inl (by have : ¬ (1 ≤ al ∧ al ≤ 4096) := fun e => h ⟨e, h1⟩; omega)
      · exact .inr (.inl h1)
    · exact .inr (.inr h)
theorem rangeI_cons (a : Int) (k : Nat) : rangeI a (k + 1) = a :: rangeI (a + 1) k := by
  rw [Nat.add_comm, rangeI_add]; simp [rangeI]
theorem freeS_head {fr : Int → Bool} : ∀ (k : Nat) (a out : Int), 0 ≤ a → out < 0 → freeS fr false k a out = (((rangeI a k).filter fr).head?).getD out
  | 0, a, out, _, _ => by simp [freeS, rangeI]
  | k + 1, a, out, ha, ho => by
    rw [rangeI_cons]
    simp only [freeS, List.filter_cons]
    by_cases h : fr a = true
    · rw [if_pos ⟨h, .inl ho⟩, if_pos h, freeS_keep _ _ _ _ ha]; rfl
    · rw [if_neg (fun e => h e.1), if_neg h, freeS_head k (a + 1) out (by omega) ho]
theorem freeS_lastL {fr : Int → Bool} : ∀ (k : Nat) (a out : Int), freeS fr true k a out = (((rangeI a k).filter fr).getLast?).getD out
  | 0, a, out => by simp [freeS, rangeI]
  | k + 1, a, out => by
    rw [rangeI_cons]
    simp only [freeS, List.filter_cons]
    by_cases h : fr a = true
    · rw [if_pos ⟨h, .inr (by trivial)⟩, if_pos h, freeS_lastL k (a + 1) a, List.getLast?_cons]; rfl
    · rw [if_neg (fun e => h e.1), if_neg h, freeS_lastL k (a + 1) out]
theorem freeE_eq {fs : List FrS} {p : PoolS} {top : Bool} (h0 : 0 ≤ p.first) : freeE fs p top = ((singP fs top p).head?).getD (-1) := by
  unfold freeE singP
  rw [show p.first + p.count - p.first = p.count by omega, freeL_eq]
  cases top with
  | false => rw [if_neg (by simp), freeS_head _ _ _ h0 (by decide)]
  | true => rw [if_pos rfl, freeS_lastL, List.head?_reverse]
theorem filter_take_drop {L : List Int} (h : L.Nodup) (j : Nat) : L.filter (fun n => decide (n ∉ L.take j)) = L.drop j := by
  conv => lhs; rw [← List.take_append_drop j L]
  have h2 : (L.take j ++ L.drop j).Nodup := by rw [List.take_append_drop]; exact h
  rw [List.nodup_append] at h2
  rw [List.take_append_drop, ← List.take_append_drop j L, List.filter_append, List.take_append_drop, List.filter_eq_nil_iff.2 (fun x hx => by simpa using hx), List.nil_append]
  rw [List.filter_eq_self]
  intro x hx
  simp only [decide_eq_true_eq]
  exact fun e => h2.2.2 x e x hx rfl
/-- What a pool still gives. -/
theorem singP_after {ps : List PoolS} {fs : List FrS} {p : PoolS} {top : Bool} {out : List Int} (hout : ∀ n ∈ out, ¬ inP p n) (j : Nat) :
    singP (allocF ps fs (out ++ (singP fs top p).take j)) top p = (singP fs top p).drop j := by
  have hmem : ∀ n ∈ singP fs top p, inP p n := by
    intro n hn
    have : n ∈ freeL fs p := by unfold singP at hn; split at hn; simpa using hn; exact hn
    have := mem_freeL this
    exact ⟨this.1, this.2.1⟩
  have key : freeL (allocF ps fs (out ++ (singP fs top p).take j)) p = (freeL fs p).filter (fun n => decide (n ∉ (singP fs top p).take j)) := by
    rw [freeL_eq, freeL_eq, List.filter_filter]
    refine List.filter_congr (fun n hn => ?_)
    have hin : inP p n := by rw [mem_rangeI] at hn; exact ⟨hn.1, by omega⟩
    rw [freeB_allocF, Bool.and_comm]
    congr 1
    rw [Bool.eq_iff_iff, decide_eq_true_eq, decide_eq_true_eq, List.mem_append]
    exact ⟨fun h e => h (.inr e), fun h e => e.elim (fun e => hout n e hin) h⟩
  have e1 : singP (allocF ps fs (out ++ (singP fs top p).take j)) top p = (singP fs top p).filter (fun n => decide (n ∉ (singP fs top p).take j)) := by
    conv => lhs; unfold singP
    rw [show (if top = true then (freeL fs p).reverse else freeL fs p) = singP fs top p from rfl, key]
    generalize hS : (fun n => decide (n ∉ (singP fs top p).take j)) = q
    unfold singP
    split
    · rw [List.filter_reverse]
    · rfl
  rw [e1, filter_take_drop singP_nodup]
/-- The pools that are asked for, and their numbers. -/
theorem askP_askL {ps : List PoolS} {nl : List ByteArray} (he : askE ps nl = 0) : (askL ps nl).map (ps[·]?) = (askP ps nl).map some := by
  have hgen : ∀ (l : List PoolS) (k : Nat), (∀ i p, l[i]? = some p → ps[k + i]? = some p) → (genL l k).map (ps[·]?) = (genP True l).map some := by
    intro l
    induction l with
    | nil => intro k _; rfl
    | cons p l ih =>
      intro k h
      have h0 := h 0 p rfl
      have hi := ih (k + 1) (fun i q hq => by have := h (i + 1) q (by simpa using hq); rwa [show k + 1 + i = k + (i + 1) by omega])
      simp only [genL, genP, true_and]
      split
      · simp only [List.map_cons, hi]; rw [show ps[k]? = some p from h0]
      · exact hi
  have hgenF : ∀ l : List PoolS, genP False l = [] := by
    intro l; induction l with
    | nil => rfl
    | cons p l ih => simp only [genP, false_and, if_false]; exact ih
  have hgc : ∀ (z w : Prop) [Decidable z] [Decidable w] (l : List PoolS), (z ↔ w) → genP z l = genP w l := by
    intro z w _ _ l h
    induction l with
    | nil => rfl
    | cons p l ih => simp only [genP, h]
  unfold askL askP
  by_cases h0 : nl.length = 0
  · rw [if_pos h0, hgc (nl.length = 0) True ps (by simp [h0]), List.eq_nil_of_length_eq_zero h0]
    simp only [nameP, List.append_nil]
    exact hgen ps 0 (fun i p h => by rwa [Nat.zero_add])
  · rw [if_neg h0, if_pos he, hgc (nl.length = 0) False ps (by simp [h0]), hgenF, List.nil_append]
    have hl : ∃ l, lookL ps nl = some l := by
      unfold askE at he
      rw [if_neg h0] at he
      split at he
      · cases he
      · split at he
        · cases he
        · rename_i l hl; exact ⟨l, hl⟩
    obtain ⟨l, hl⟩ := hl
    rw [hl, Option.getD_some]
    clear h0 he
    induction nl generalizing l with
    | nil => simp only [lookL, Option.some.injEq] at hl; subst hl; rfl
    | cons s nl ih =>
      simp only [lookL] at hl
      split at hl
      · cases hl
      · rename_i i hi
        obtain ⟨o, ho, rfl⟩ := Option.map_eq_some_iff.1 hl
        obtain ⟨_, p, hp, _⟩ := idxOf_some hi
        simp only [nameP, hi, Option.bind_some, hp, List.map_cons, ih o ho]
theorem askP_get {ps : List PoolS} {nl : List ByteArray} (he : askE ps nl = 0) {i : Nat} {p : PoolS} (h : (askP ps nl)[i]? = some p) : ∃ k, (askL ps nl)[i]? = some k ∧ ps[k]? = some p := by
  have := congrArg (fun l : List (Option PoolS) => l[i]?) (askP_askL he)
  simp only [List.getElem?_map, h, Option.map_some] at this
  obtain ⟨k, h1, h2⟩ := Option.map_eq_some_iff.1 this
  exact ⟨k, h1, h2⟩
theorem askP_len {ps : List PoolS} {nl : List ByteArray} (he : askE ps nl = 0) : (askP ps nl).length = (askL ps nl).length := by
  have := congrArg List.length (askP_askL he); simpa using this.symm
theorem look_found {ps : List PoolS} : ∀ {nl : List ByteArray} {l : List Nat}, lookL ps nl = some l → ∀ s ∈ nl, ∃ i, idxOf ps s = some i
  | [], _, _ => by simp
  | s :: nl, l, hl => by
    simp only [lookL] at hl
    split at hl
    · cases hl
    · rename_i i hi
      obtain ⟨o, ho, rfl⟩ := Option.map_eq_some_iff.1 hl
      intro t ht
      rcases List.mem_cons.1 ht with rfl | ht
      · exact ⟨i, hi⟩
      · exact look_found ho t ht
theorem names_found {ps : List PoolS} {nl : List ByteArray} (he : askE ps nl = 0) : nl.length ≤ 16 ∧ ∀ s ∈ nl, ∃ i, idxOf ps s = some i := by
  unfold askE at he
  split at he
  · rename_i h0; rw [List.eq_nil_of_length_eq_zero h0]; simp
  · split at he
    · cases he
    · split at he
      · cases he
      · rename_i h1 l hl
        exact ⟨by omega, look_found hl⟩
/-- Two pools that are asked for share no frame. -/
theorem askP_disj {T : TabS} {fs : List FrS} (ht : TabOk T fs) {nl : List ByteArray} (he : askE T.pools nl = 0) {i j : Nat} {p q : PoolS} {n : Int} (hi : (askP T.pools nl)[i]? = some p) (hj : (askP T.pools nl)[j]? = some q) (h1 : inP p n) (h2 : inP q n) : i = j := by
  obtain ⟨a, ha, hp⟩ := askP_get he hi
  obtain ⟨b, hb, hq⟩ := askP_get he hj
  obtain ⟨f, hf, hfa⟩ := ht.cov a p n hp h1.1 h1.2
  obtain ⟨g, hg, hgb⟩ := ht.cov b q n hq h2.1 h2.2
  rw [hf] at hg; cases hg
  have hab : a = b := by rw [← hfa, hgb]
  subst hab
  have hnd := askL_nodup (ps := T.pools) (names := nl)
  rw [List.nodup_iff_pairwise_ne, List.pairwise_iff_getElem] at hnd
  obtain ⟨hil, hie⟩ := List.getElem?_eq_some_iff.1 ha
  obtain ⟨hjl, hje⟩ := List.getElem?_eq_some_iff.1 hb
  rcases Nat.lt_trichotomy i j with h | h | h
  · exact (hnd i j hil hjl h (hie.trans hje.symm)).elim
  · exact h
  · exact (hnd j i hjl hil h (hje.trans hie.symm)).elim
end Go.Proofs.Ytinpojleegfadaa
