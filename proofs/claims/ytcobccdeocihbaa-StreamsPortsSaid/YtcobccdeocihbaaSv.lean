/- Laws for a loop over a map, for the walk calculus. -/
import Derived.Test.YtcobccdeocihbaaSw
import Derived.Laws.IdiomRangeMap
set_option linter.unusedVariables false
set_option linter.unusedSimpArgs false
namespace Go.Sx
open Go.RowKit
section
variable {P : Program} {W : World} {base : List Blk} {its : Items} {κ : Type} {enc : κ → Value}
/-! ### A loop over a map -/
theorem runRange {T K E b clk : Nat} {es : Array MapEntry} (hT : P.underlying T = some (.map K E)) (h : Nat × Nat) (hb : blkAt base its h = some (b, .map es clk)) :
    RunX P W base its (do pure (Next.value (← Instr.range T (.map (some b))))) (fun r : Nat => .value (.pointer (some ⟨r, 0, none⟩))) (fun r => its ++ [[(r, .mapIter (some b) clk #[] clk)]]) (fun _ => True) := by
  intro hbase w hs
  have hh := hs.at hbase hb
  refine ⟨w.heap.size, { w with heap := w.heap.push (.mapIter (some b) clk #[] clk) }, trivial, ?_, ?_⟩
  · simp only [Instr.range, Sem.run_bind, run_underlying hT, Result.andThen_ok, getObj, newObj, Sem.run, hh, Sem.run_pure]
  · have h1 := Sat.new hs (.mapIter (some b) clk #[] clk)
    unfold SatI
    simpa [SatI] using h1
theorem runNext {ty r m since clk : Nat} {l : List (κ × Value × Nat)} {seen : Array Nat} (i : Nat) (hi : its[i]? = some [(r, .mapIter (some m) since seen clk)]) (h : Nat × Nat) (hm : blkAt base its h = some (m, .map (mkM enc l) clk))
    (hborn : ∀ x ∈ l, x.2.2 < since) (hsc : since ≤ clk) :
    RunX P W base its (do pure (Next.value (← Instr.next (.pointer (some ⟨r, 0, none⟩)) false ty))) (fun o : Option (κ × Value × Nat) => .value (match o with | none => .tuple #[.bool false] | some x => .tuple #[.bool true, enc x.1, x.2.1]))
      (fun o => match o with | none => its | some x => its.set i [(r, .mapIter (some m) since (seen.push x.2.2) clk)]) (fun o => match o with | none => ∀ x ∈ l, x.2.2 ∈ seen | some x => x ∈ l ∧ x.2.2 ∉ seen) := by
  intro hbase w hs
  have hmm := hs.at hbase hm
  have hr : w.heap[r]? = some (.mapIter (some m) since seen clk) := hs.at hbase (ij := (i + 1, 0)) (p := (r, .mapIter (some m) since seen clk)) (by simp [blkAt, hi])
  have hold : ∀ x ∈ (mkM enc l).toList, x.born < since := by
    intro x hx
    simp only [mkM, List.mem_map] at hx
    obtain ⟨y, hy, rfl⟩ := hx
    exact hborn y hy
  simp only [Instr.next, getObj, Sem.run_bind, Sem.run, hr, hmm, Result.andThen, Array.back?_push, next_test_false seen (mkM enc l) since clk hold hsc, Bool.false_eq_true, if_false]
  have hmem : ∀ x ∈ ((mkM enc l).filter fun e => !seen.contains e.born).toList, x.born < since := fun x hx => hold x (by simp at hx ⊢; exact hx.1)
  have hsub : ∀ x ∈ ((mkM enc l).filter fun e => !seen.contains e.born).toList, ∃ y ∈ l, y.2.2 ∉ seen ∧ x = ⟨enc y.1, y.2.1, y.2.2⟩ := by
    intro x hx
    have h2 := Array.mem_filter.1 (Array.mem_toList_iff.1 hx)
    have h3 := h2.1
    simp only [mkM, List.mem_toArray, List.mem_map] at h3
    obtain ⟨y, hy, rfl⟩ := h3
    exact ⟨y, hy, by simpa using h2.2, rfl⟩
  have hemp : ((mkM enc l).filter fun e => !seen.contains e.born) = #[] → ∀ x ∈ l, x.2.2 ∈ seen := by
    intro he x hx
    rw [Array.filter_eq_empty_iff] at he
    have := he ⟨enc x.1, x.2.1, x.2.2⟩ (by simp only [mkM, List.mem_toArray, List.mem_map]; exact ⟨x, hx, rfl⟩)
    simpa using this
  generalize ((mkM enc l).filter fun e => !seen.contains e.born) = L at hmem hsub hemp ⊢
  have e1 : L.filter (fun x => decide (x.born < since)) = L := Array.filter_eq_self.2 (fun x hx => by simpa using hmem x (by simpa using hx))
  have e2 : L.filter (fun x => decide (x.born ≥ since)) = #[] := by
    rw [Array.filter_eq_empty_iff]
    intro x hx
    have := hmem x (by simpa using hx)
    simp
    omega
  simp only [e1, e2, Array.append_empty]
  by_cases h0 : L.size = 0
  · have hL : L = #[] := Array.eq_empty_of_size_eq_zero h0
    subst hL
    refine ⟨none, w, hemp rfl, ?_, hs⟩
    simp [choose, Sem.run, Question.forced, Result.andThen]
  · have hne : L.isEmpty = false := by simp [Array.isEmpty, h0]
    simp only [hne, Bool.false_eq_true, if_false, Array.empty_append, Array.size_map]
    have hch : ∃ (j : Nat) (w1 : World), j < L.size ∧ w1.heap = w.heap ∧ SatI W w1 its ∧ (choose (Question.mapNext L.size)).run P w = .ok j w1 := by
      by_cases hf : L.size ≤ 1
      · exact ⟨0, w, by omega, rfl, hs, by simp [choose, Sem.run, Question.forced, hf]⟩
      · exact ⟨_, w.drew, Nat.mod_lt _ (by omega), rfl, Sat.drawn hs (w.drawn + 1), by
          simp only [choose, Sem.run, Question.forced, decide_eq_true_eq, hf, if_false, Question.cut]
          rfl⟩
    obtain ⟨j, w1, hj, hh, hs1, hrun⟩ := hch
    obtain ⟨y, hy, hns, hLj⟩ := hsub L[j] (by simp)
    obtain ⟨r1, r2, _⟩ := setObj_run (P := P) (o' := .mapIter (some m) since (seen.push y.2.2) clk) hs1 hi (by intro c T f h; cases h)
    refine ⟨some y, _, ⟨hy, hns⟩, ?_, r2⟩
    simp only [hrun, Array.getElem?_map, Array.getElem?_eq_getElem hj, Option.map_some, Sem.run_bind, Result.andThen, hLj, r1]
    rfl
theorem runEntry {r m since clk : Nat} {l : List (κ × Value × Nat)} {seen : Array Nat} {x : κ × Value × Nat} (h : Nat × Nat) (hi : blkAt base its h = some (r, .mapIter (some m) since (seen.push x.2.2) clk)) (h2 : Nat × Nat) (hm : blkAt base its h2 = some (m, .map (mkM enc l) clk))
    (hx : x ∈ l) (hn : (l.map (·.2.2)).Nodup) : RunR P W base its (do pure (Next.value (← Instr.entry (.pointer (some ⟨r, 0, none⟩))))) (.value (.tuple #[enc x.1, x.2.1])) := by
  intro hbase w hs
  have hmm := hs.at hbase hm
  have hr := hs.at hbase hi
  have hf : (mkM enc l).find? (·.born == x.2.2) = some ⟨enc x.1, x.2.1, x.2.2⟩ := by
    rw [← Array.find?_toList]
    refine find_born ⟨enc x.1, x.2.1, x.2.2⟩ (mkM enc l).toList ?_ ?_
    · simpa [mkM, List.map_map, Function.comp_def] using hn
    · simp only [mkM, List.mem_map]; exact ⟨x, hx, rfl⟩
  simp only [Instr.entry, getObj, Sem.run_bind, Sem.run, hr, hmm, Result.andThen, Array.back?_push, bne_self_eq_false, Bool.false_eq_true, if_false, hf]
  rfl
end
end Go.Sx
