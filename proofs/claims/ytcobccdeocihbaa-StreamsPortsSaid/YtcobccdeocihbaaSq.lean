/- Functions that defer a call, and what a deferred call leaves behind. -/
import Derived.Test.YtcobccdeocihbaaSr
import Derived.RecoverIn
set_option linter.unusedVariables false
set_option linter.unusedSimpArgs false
namespace Go.Sx
open Go
section
variable {P : Program} {W : World} {base : List Blk} {m : Option Nat} {n : Nat} {ds : List Deferred} {Q : Exit → Act → World → Prop} {k : List KI} {e : Env} {its : Items}
/-- What the body of a function that defers must achieve. -/
def postD (P : Program) (fn : Func) (R : Ending → World → Prop) : Exit → Act → World → Prop := fun x a w => x ≠ .outgrown ∧ (∀ c, x ≠ .panic c) ∧ bodyPostDIn (FR none) 0 P fn R x a w
theorem gq_postD {fn : Func} {R : Ending → World → Prop} : GQ (postD P fn R) :=
  ⟨fun _ _ _ _ _ h => (h.2.1 _ rfl).elim, fun _ _ h => h.1 rfl⟩
theorem ctIntroD {f : FuncId} {fn : Func} {c : Code} {args : Array Value} {α : Type} {v : α → Value} {its' : α → Items} {φ : α → Prop}
    (hf : P.funcs[f]? = some fn) (hb : fn.body = some c) (hn : fn.ntmps = n) (ha : Nat.ble args.size n = true)
    (h : WS P W base none n ([] : List Deferred) (postD P fn (RT W v its' φ)) [.code c] (argE args.toList 0) its) : CT P W base f args its v its' φ := by
  intro hbase w hs
  refine callsIn_FR.1 (callsIn_of_wp_defers (F := FR none) (n := 0) hf hb trivial ?_)
  have hle : args.size ≤ n := by simpa using ha
  have h1 := h hbase gq_postD { tmps := args ++ Array.replicate (fn.ntmps - args.size) undef, defers := [] } w
    ⟨by simp [hn]; omega, rfl, fun j u hj => ?_⟩ hs
  · exact wpIn_mono h1 (fun x a w hx => hx.2.2)
  · obtain ⟨_, h2⟩ := look_argE hj
    simp only [Nat.sub_zero] at h2
    obtain ⟨h3, h4⟩ := List.getElem?_eq_some_iff.1 h2
    simp only [Array.length_toList] at h3
    rw [Array.getElem?_append_left h3]
    simpa using h2
/-- A call is deferred. -/
theorem lDefer {ops : Array Oper} {rest : List Oper} {o : Oper} {f : Operand} {at_ : Array TypeId} {g : FuncId} {first cap : Array Value} (hop : o.op = .defer { callee := .value f, args := #[], argTypes := at_ }) (hg : o.guard = none) (hd : o.dst = none)
    (hf : (hasOp e f, ev e f) = (true, .func (.func g) first cap))
    (hk : WL P W base none n ({ target := .fn (.func g) cap, args := first } :: ds) Q k ops rest e its) : WL P W base none n ds Q k ops (o :: rest) e its := by
  intro hb hq a w hs hi
  have h1 : a.eval f = .func (.func g) first cap := (hs.eval (Prod.mk.inj hf).1).trans (Prod.mk.inj hf).2
  have hw : Region.wanted o (yielded ops a.tmps) = true := by simp [Region.wanted, hg]
  simp only [wpListIn, hw, if_true]
  refine ⟨fun _ _ => trivial, ?_⟩
  have hx : (o.semAt (FR none).round a.eval).run P w = .ok (.defer { target := .fn (.func g) cap, args := first }) w := by
    show (execOp a.eval o).run P w = _
    unfold execOp
    rw [hop]
    simp only [resolve, h1, Deferred.ofValue]
    simp
  rw [hx]
  show wpListIn (FR none) 0 P ops (post P none Q k) rest (({ a with defers := _ :: a.defers } : Act).put o.dst undef) w
  rw [hd]
  exact hk hb hq _ w ⟨hs.size, by simp [Act.put, hs.defers], hs.ag⟩ hi
/-- A deferred call of a frame that returns: it leaves the memory alone. -/
def DC (P : Program) (W : World) (g : FuncId) (args : Array Value) (its : Items) : Prop :=
  ∀ w, SatI W w its → CallsDIn (FR none) 0 P g args .returning w fun en u' w' => (∃ v, en = .returned v) ∧ u' = .returning ∧ SatI W w' its
theorem resS_two {P : Program} {r1 r2 : ResultVar} {u1 u2 : Value} {w : World} (h1 : (resS [r1] e).run P w = .ok u1 w) (h2 : (resS [r2] e).run P w = .ok u2 w) :
    (resS [r1, r2] e).run P w = .ok (.tuple #[u1, u2]) w := by
  unfold resS at *
  simp only [List.mapM_cons, List.mapM_nil, Sem.run_bind, bind_assoc, pure_bind] at *
  revert h1 h2
  generalize hA : Sem.run P (match r1 with | .tmp t => pure (ev e (.tmp t)) | .cell a t => do loadVar t (← asAddr (ev e (.tmp a)))) w = A
  generalize hB : Sem.run P (match r2 with | .tmp t => pure (ev e (.tmp t)) | .cell a t => do loadVar t (← asAddr (ev e (.tmp a)))) w = B
  intro h1 h2
  cases A with
  | halt h w' => cases h1
  | ok a w' =>
    simp only [Result.andThen_ok, Sem.run_pure] at h1
    cases h1
    simp only [Result.andThen_ok]
    refine (congrArg (fun X => Result.andThen X _) hB).trans ?_
    cases B with
    | halt h w' => cases h2
    | ok a w' =>
      simp only [Result.andThen_ok, Sem.run_pure] at h2
      cases h2
      simp only [Result.andThen_ok, Sem.run_pure]
theorem resS_ex {rs : List ResultVar} {h : Nat × Nat} {bs : List Nat} {u : Value} (hu : ex P base false h (resS rs e) its [] [] = some ⟨u, its, [], dbl bs⟩) (hb : BaseOk W base) {w : World} (hi : SatI W w its) : (resS rs e).run P w = .ok u w := by
  obtain ⟨w', e1, _, _, e4⟩ := ex_sound hb _ hu hi trivial dbl_eq
  obtain ⟨rfl, _⟩ := e4 rfl
  exact e1
theorem wRetD {fn : Func} {α : Type} {v : α → Value} {its' : α → Items} {φ : α → Prop} {g : FuncId} {cap first : Array Value} (r : α) (u : Value) (rs : List ResultVar) (hds : ds = [{ target := .fn (.func g) cap, args := first }]) (hrs : fn.results.toList = rs)
    (hf : ∀ (args : Array Value) (w : World), (callFunc g args).run P w = .ok (.enter g args) w) (hdc : DC P W g (first ++ cap) its) (hok : resOk rs e = true)
    (hu : BaseOk W base → ∀ w, SatI W w its → (resS rs e).run P w = .ok u w) (hv : u = v r) (hφ : φ r) (hm : ∀ w, SatI W w its → SatI W w (its' r)) :
    WF W base n ds (postD P fn (RT W v its' φ)) .ret e its := by
  intro hb a w hs hi
  subst hrs
  refine ⟨by simp, by simp, ?_⟩
  show LeavesIn (FR none) 0 P fn a.tmps _ a.defers .returning w
  rw [hs.defers, hds]
  refine leavesIn_cons (by simp) (fun h => by simp [FR, Fence.wide] at h) (f := g) (args := first ++ cap) (hf _ _) (fun _ _ => trivial) ?_
  refine (hdc w hi).mono ?_
  rintro en u' w' ⟨⟨v', rfl⟩, rfl, hw'⟩
  exact ⟨u, by rw [results_ev hs hok]; exact hu hb w' hw', r, hφ, by rw [hv], hm _ hw'⟩
end
end Go.Sx
