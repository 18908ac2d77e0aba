/- A structure of numbers is equal to itself. -/
import Derived.Test.YtinpojleegfadaaProg
import Derived.Test.YtinpojleegfadaaFz
import Derived.Laws.StructEq
set_option linter.unusedVariables false
set_option linter.unusedSimpArgs false
namespace Go.Sx
open Go
/-- A structure of numbers is equal to itself. -/
theorem eqFields_self {P : Program} {k : IntKind} {t3 : TypeId} (hT : P.underlying t3 = some (.int k)) (d : Nat) (xs : Array Value) (w : World) : ∀ (fs : List Field), (∀ f ∈ fs, f.type = t3 ∧ ∃ a, xs[f.offset]? = some (.int k a)) → (Op.eqFields (d + 1) xs xs fs).run P w = .ok true w
  | [], _ => by simp [Op.eqFields]
  | f :: fs, h => by
    obtain ⟨h1, a, h2⟩ := h f (by simp)
    have ih := eqFields_self hT d xs w fs (fun g hg => h g (by simp [hg]))
    have hp : (part t3 xs f.offset).run P w = .ok (.int k a) w := by
      unfold part
      simp only [Sem.run_bind, isAgg, run_underlying hT, Result.andThen_ok, Sem.run_pure, h2, Bool.false_eq_true, if_false]
    have he : (Op.equalIn (d + 1) t3 (.int k a) (.int k a)).run P w = .ok true w := by rw [run_equalIn_int w d t3 k k a a hT]; simp
    simp only [Op.eqFields]
    split
    · rw [h1]
      simp only [Sem.run_bind, hp, he, Result.andThen_ok, Bool.not_true, Bool.false_eq_true, if_false, ih]
    · exact ih
theorem runStructNe {P : Program} {W : World} {base : List Blk} {its : Items} {T t3 : TypeId} {k : IntKind} {n : Nat} {o1 o2 : Operand} (xs : List Int) (hn : xs.length = n) (hT : P.underlying t3 = some (.int k)) (hS : P.underlying T = some (.struct (P.fieldsOf T))) (hp : P.stoodInHeld T = false) (hg : P.eqGuardType P.depth T = false)
    (hf : ((P.fieldsOf T).toList.all fun f => f.type == t3 && decide (f.offset < n)) = true) :
    RunR P W base its (do pure (Next.value (← (do eqGuard .neq T o1 o2 (.agg (xs.map (Value.int k)).toArray) (.agg (xs.map (Value.int k)).toArray); binOp .neq T (.agg (xs.map (Value.int k)).toArray) (.agg (xs.map (Value.int k)).toArray))))) (.value (.bool false)) := by
  intro _ w _
  have h3 := eqFields_self hT 9998 (xs.map (Value.int k)).toArray w (P.fieldsOf T).toList (fun f hm => by
    have := List.all_eq_true.1 hf f hm
    simp only [Bool.and_eq_true, beq_iff_eq, decide_eq_true_eq] at this
    refine ⟨this.1, xs[f.offset]'(by omega), ?_⟩
    rw [List.getElem?_toArray, List.getElem?_map, List.getElem?_eq_getElem (by omega)]; rfl)
  simp only [Sem.run_bind, run_eqGuard_agg w .neq T o1 o2 _ _ hg, Result.andThen_ok, run_neq_struct, show (10000 : Nat) = 9999 + 1 from rfl, run_equalIn_agg w 9999 T _ _ hS hp, h3, Sem.run_pure]
  rfl
end Go.Sx
