/- From the reading of the arguments to lists of elements. -/
import Derived.Test.YtcobccdeocihbaaSp
import Derived.ProofKit
import Derived.Carry
import Derived.SizedLaws
/-! From the reading of the arguments to lists of elements. -/
namespace Go.Sx
open Go Go.RowKit Go.ChangeShapes
set_option maxRecDepth 100000
set_option linter.unusedSimpArgs false
set_option linter.unusedVariables false
section
variable {H : Type} {enc : TypeId × Value → H} {P : Program} {w : World} {sp : Nat → Bool} {held : Bool}
theorem mapM_cells {w : World} {a : Addr} : ∀ {l : List Nat} {r : List Value}, (l.mapM fun i => w.cell? (a.add i)) = some r → r.length = l.length ∧ ∀ (j : Nat) (u : Value), r[j]? = some u → ∃ i, l[j]? = some i ∧ w.cell? (a.add i) = some u
  | [], r, h => by simp at h; subst h; simp
  | i :: l, r, h => by
    rw [List.mapM_cons] at h
    simp only [Option.bind_eq_bind, Option.bind_eq_some_iff, Option.pure_def, Option.some.injEq] at h
    obtain ⟨v, hv, r', hr', rfl⟩ := h
    obtain ⟨h1, h2⟩ := mapM_cells hr'
    refine ⟨by simp [h1], fun j u hu => ?_⟩
    cases j with
    | zero => simp at hu; subst hu; exact ⟨i, rfl, hv⟩
    | succ j => exact h2 j u (by simpa using hu)
/-- A slice that is read: its elements. -/
theorem open_elems {α : Type} {t e k : Nat} {f : α → List Value} {Q : α → Prop} (ht : P.underlying t = some (.slice e)) (hk : ∀ x, (f x).length = k) (hc : P.cellsOf e = k) (hk0 : 0 < k)
    (hel : ∀ (fuel : Nat) (cs : List Value) (y : DataW H × List MemPlace), DataW.trod enc P w 0 sp held fuel e cs = some y → ∃ x, cs = f x ∧ Q x)
    {fuel : Nat} {cs : List Value} {d : DataW H × List MemPlace} (h : DataW.trod enc P w 0 sp held fuel t cs = some d) :
    ∃ (a : Option Addr) (xs : List α) (c : Nat), cs = [.slice a xs.length c] ∧ BS w f a xs ∧ xs.length ≤ c ∧ c ≤ 9223372036854775807 ∧ ∀ x ∈ xs, Q x := by
  rcases DataW.trod_slice ht h with ⟨rfl, _⟩ | ⟨a, len, cap, elems, rest, n, _, rfl, _, _, hl, hm, hlen, hel', _, _⟩
  · exact ⟨none, [], 0, rfl, .inl rfl, Nat.le_refl _, by omega, by simp⟩
  have each : ∀ i, i < len → ∃ x, Q x ∧ ∀ j u, (f x)[j]? = some u → w.cell? (a.add (i * k + j)) = some u ∧ (j = 0 → w.cell? (a.add (i * k)) = some u) := by
    intro i hi
    have h1 := hel' i hi
    rw [List.getElem?_eq_getElem (by omega), Option.bind_eq_some_iff] at h1
    obtain ⟨cs', h2, h3⟩ := h1
    obtain ⟨x, rfl, hq⟩ := hel _ _ _ h3
    refine ⟨x, hq, fun j u hu => ?_⟩
    unfold World.cells? at h2
    rw [if_pos (Nat.zero_le _)] at h2
    obtain ⟨h4, h5⟩ := mapM_cells h2
    obtain ⟨i', hi', hcell⟩ := h5 j u hu
    have hij : i' = j := by
      have := (List.getElem?_eq_some_iff.1 hi').2
      simpa using this.symm
    subst hij
    have hadd : (a.add (i * P.cellsOf e)).add i' = a.add (i * k + i') := by
      rw [hc]
      unfold Addr.add
      by_cases h6 : i * k = 0
      · rw [if_pos h6, h6, Nat.zero_add]
      · rw [if_neg h6]
        by_cases h7 : i' = 0
        · subst h7; rw [if_pos rfl, if_neg (by omega), Nat.add_zero]
        · rw [if_neg h7, if_neg (by omega)]
          simp only [Addr.mk.injEq, true_and, and_true]; omega
    rw [hadd] at hcell
    exact ⟨hcell, fun h0 => by subst h0; simpa using hcell⟩
  obtain ⟨xs, hxl, hxs⟩ : ∃ xs : List α, xs.length = len ∧ ∀ i x, xs[i]? = some x → Q x ∧ ∀ j u, (f x)[j]? = some u → w.cell? (a.add (i * k + j)) = some u := by
    have : ∀ m, m ≤ len → ∃ xs : List α, xs.length = m ∧ ∀ i x, xs[i]? = some x → Q x ∧ ∀ j u, (f x)[j]? = some u → w.cell? (a.add (i * k + j)) = some u := by
      intro m
      induction m with
      | zero => intro _; exact ⟨[], rfl, by simp⟩
      | succ m ih =>
        intro hm'
        obtain ⟨xs, h1, h2⟩ := ih (by omega)
        obtain ⟨x, hq, hx⟩ := each m (by omega)
        refine ⟨xs ++ [x], by simp [h1], fun i y hy => ?_⟩
        by_cases hi : i < xs.length
        · rw [List.getElem?_append_left hi] at hy; exact h2 i y hy
        · rw [List.getElem?_append_right (by omega)] at hy
          have := (List.getElem?_eq_some_iff.1 hy).1
          simp only [List.length_singleton] at this
          obtain rfl : i = m := by omega
          rw [show i - xs.length = 0 by omega] at hy
          simp only [List.getElem?_cons_zero, Option.some.injEq] at hy
          subst hy
          exact ⟨hq, fun j u hu => (hx j u hu).1⟩
    exact this len (Nat.le_refl _)
  refine ⟨some a, xs, cap, by rw [hxl], ?_, by omega, by have : cap ≤ maxLen := hm; unfold maxLen at this; omega, fun x hx => by obtain ⟨i, hi⟩ := List.getElem?_of_mem hx; exact (hxs i x hi).1⟩
  cases xs with
  | nil => exact .inl rfl
  | cons x0 xs =>
    right
    have h0 := (hxs 0 x0 rfl).2
    obtain ⟨u0, hu0⟩ : ∃ u, (f x0)[0]? = some u := ⟨_, List.getElem?_eq_getElem (by rw [hk]; exact hk0)⟩
    have hs := h0 0 u0 hu0
    rw [Nat.zero_mul, Nat.zero_add, show a.add 0 = a by simp [Addr.add]] at hs
    obtain ⟨b, o, s⟩ := a
    have hs0 : s = none := by
      cases s with
      | none => rfl
      | some s =>
        unfold World.cell? at hs
        simp only [Option.isSome_some, if_true] at hs
        split at hs <;> cases hs
    subst hs0
    refine ⟨b, o, rfl, fun j u hu => ?_⟩
    have hlt := (List.getElem?_eq_some_iff.1 hu).1
    rw [flatMap_len hk] at hlt
    have hdiv : j / k < (x0 :: xs).length := Nat.div_lt_of_lt_mul (by rw [Nat.mul_comm]; exact hlt)
    have hjk : j / k * k + j % k = j := by rw [Nat.mul_comm]; exact Nat.div_add_mod j k
    have hget := flatMap_get hk (List.getElem?_eq_getElem hdiv) (t := j % k) (Nat.mod_lt _ hk0)
    rw [hjk, hu] at hget
    have := (hxs (j / k) _ (List.getElem?_eq_getElem hdiv)).2 (j % k) u hget.symm
    rw [hjk] at this
    have hadd : (⟨b, o, none⟩ : Addr).add j = ⟨b, o + j, none⟩ := by unfold Addr.add; split <;> simp_all
    rwa [hadd] at this
end
section
variable {H : Type} {enc : TypeId × Value → H} {w : World} {sp : Nat → Bool} {held : Bool}
theorem cut1 {cs : List Value} {o : Nat} {v : Value} (h : (cs.drop o).take 1 = [v]) : cs[o]? = some v := by
  cases hd : cs.drop o with
  | nil => rw [hd] at h; simp at h
  | cons x l =>
    rw [hd] at h
    simp at h
    subst h
    have := congrArg (·[0]?) hd
    simpa using this
end
theorem satI_start (W : World) : SatI W W ([] ++ [[]]) := ⟨Below.refl _ _, by simp, by simp, by simp⟩
end Go.Sx
