/- A range over a function whose body allocates. -/
import Derived.Test.YtljfjiaiachbfaaDoorSo
set_option linter.unusedVariables false
set_option linter.unusedSimpArgs false
namespace Go.Sx
open Go
section
variable {P : Program} {W : World} {base : List Blk} {m : Option Nat} {n : Nat} {ds : List Deferred} {Q : Exit → Act → World → Prop} {k : List KI} {e : Env} {its : Items}
/-! A range over a function whose assignment lays a new block. -/
theorem yieldRound2 {β : Type} {l D : Nat} {fn : FuncId} {tm : Array Value} {ps : Array Tmp} {assign body : Code} {args : Array Value} {α : Type} {v : α → Value} {its' : α → Items} {φ : α → Prop} (i : Nat) (e1 : β → Env) (N : β → List Blk)
    (hi : its[i]? = some [(l, lrec fn tm ps assign body D .ready none)]) (htm : St n [] { tmps := tm, defers := [] } e) (hps : (ps.toList.all fun t => Nat.blt t n) = true) (hsz : args.size = ps.size)
    (hA : WS P W base (some l) n [] (fun _ _ _ => False) [.code assign, .till fun a w => ∃ b, St n [] a (e1 b) ∧ SatI W w (its ++ [N b])] (parE ps.toList args.toList e) its)
    (hB : ∀ b, WS P W base (some l) n [] (roundPost P l (RT W v its' φ)) [.code body] (e1 b) ((its ++ [N b]).set i [(l, lrec fn tm ps assign body D .busy none)])) :
    YT P W base l args its v its' φ := by
  intro hb w hs
  have hh := (setObj_run (P := P) (o' := lrec fn tm ps assign body D .ready none) hs hi (by intro c T f h; cases h)).2.2
  have hy : (Instr.yield l args).run P w = .ok (.round l fn ((ps.zip args).foldl (fun tmps (t, a) => tmps.setIfInBounds t a) tm) assign body) w := by
    simp [Instr.yield, getLoop_run hh, hsz]
  refine ⟨_, _, _, _, hy, ?_⟩
  have hF : (FR none).inRound l = FR (some l) := rfl
  refine roundIn_of_wpIn trivial ?_
  rw [hF]
  have hst : St n [] { tmps := (ps.zip args).foldl (fun tmps (t, a) => tmps.setIfInBounds t a) tm, defers := [] } (parE ps.toList args.toList e) := by
    have h1 := St.params (a := { tmps := tm, defers := [] }) (vs := args.toList) htm hps
    rw [← Array.foldl_toList, Array.toList_zip]; exact h1
  have gF : GQ (fun (_ : Exit) (_ : Act) (_ : World) => False) := ⟨fun _ _ _ _ _ h => h, fun _ _ h => h⟩
  have h1 := hA hb gF _ w hst hs
  refine wpIn_mono h1 ?_
  intro x a w' hx
  cases x with
  | normal =>
    obtain ⟨b, h2, h3⟩ := hx
    have hi2 : (its ++ [N b])[i]? = some [(l, lrec fn tm ps assign body D .ready none)] := by rw [List.getElem?_append_left (List.getElem?_eq_some_iff.1 hi).1]; exact hi
    obtain ⟨r1, r2, r3⟩ := setObj_run (P := P) (o' := lrec fn tm ps assign body D .busy none) h3 hi2 (by intro c T f h; cases h)
    refine ⟨_, ?_, hB b hb ⟨fun _ _ _ _ _ h => h, fun _ _ h => h⟩ a _ h2 r2⟩
    simp only [Instr.beginRound, Sem.run_bind, getLoop_run r3, Result.andThen_ok]
    rw [show (setObj l (.loop { ({ state := .ready, pending := none, fn := fn, tmps := tm, params := ps, assign := assign, body := body, defers := D } : Loop) with state := .busy })).run P w' = .ok () _ from r1]
    rfl
  | _ => exact hx.elim
theorem sRangeIt2 {β : Type} {g : Operand} {ps : Array Tmp} {assign body : Code} {f : FuncId} {first cap : Array Value} {I0 Rs : Items} {γ τ : Type} {ya : γ → Array Value} {xs : List γ} (hIt : IterOk P W base f first cap I0 ya xs)
    (S : τ → Items) (J : List γ → τ → Prop) (K : List γ → Code → τ → Prop) (e1 : γ → β → Env) (N : γ → β → List Blk) (x0 : τ) (hx : J [] x0) (hi : I0 ++ S x0 ++ Rs = its)
    (hg : (hasOp e g, ev e g) = (true, .func (.func f) first cap)) (hf : ∀ (args : Array Value) (w : World), (callFunc f args).run P w = .ok (.enter f args) w)
    (hps : (ps.toList.all fun t => Nat.blt t n) = true) (hsz : ∀ c, (ya c).size = ps.size)
    (hA : ∀ l rs c x G, J rs x → (∃ t, xs = rs ++ c :: t) → WS P W base (some l) n [] (fun _ _ _ => False) [.code assign, .till fun a w => ∃ b, St n [] a (e1 c b) ∧ SatI W w (S x ++ [G] ++ [N c b])] (parE ps.toList (ya c).toList e) (S x ++ [G]))
    (hB : ∀ l rs c x G b, J rs x → (∃ t, xs = rs ++ c :: t) → WS P W base (some l) n [] (RQ W S G (J (rs ++ [c])) (K (rs ++ [c]))) [.code body] (e1 c b) (S x ++ [G] ++ [N c b]))
    (hk : ∀ D y, J xs y → WS P W base none n (markD D :: ds) Q k e (I0 ++ S y ++ Rs ++ [[(D, .deferred (some []))]]))
    (hkX : ∀ D y c rs1 rs2, xs = rs1 ++ rs2 → K rs1 c y → WS P W base none n (markD D :: ds) Q (.code c :: k) e (I0 ++ S y ++ Rs ++ [[(D, .deferred (some []))]])) :
    WS P W base none n ds Q (.code (.rangeFunc g ps assign body) :: k) e its := by
  subst hi
  refine sRange (α := τ × Option Code) (fun _ => .tuple #[]) (fun D r => I0 ++ S r.1 ++ Rs ++ [[(D, .deferred (some []))]]) (fun r => (r.2 = none ∧ J xs r.1) ∨ ∃ c rs1 rs2, r.2 = some c ∧ xs = rs1 ++ rs2 ∧ K rs1 c r.1) (·.2) hg hf ?_ ?_
  · intro D l fn tm htm
    have h := hIt l (τ × Option Code) (fun x => (S x.1).flatten ++ [(l, lrec fn tm ps assign body D (if x.2.isSome then .done else .ready) x.2)]) (fun rs x => x.2 = none ∧ J rs x.1) (fun rs x => ∃ c, x.2 = some c ∧ K rs c x.1)
      ?_ (x0, none) ⟨rfl, hx⟩
    · intro hb w hs
      have hs' : SatI W w ((I0 ++ [(S x0).flatten ++ [(l, lrec fn tm ps assign body D .ready none)]]) ++ [Rs.flatten ++ [(D, .deferred (some []))]]) := by
        refine Sat.perm hs ?_
        simp only [List.flatten_append, List.flatten_cons, List.flatten_nil, List.append_nil, List.append_assoc]
        refine List.Perm.append_left _ (List.Perm.append_left _ ?_)
        have h1 : (Rs.flatten ++ ([(D, Obj.deferred (some []))] ++ [(l, lrec fn tm ps assign body D .ready none)])).Perm (([(l, lrec fn tm ps assign body D .ready none)]) ++ (Rs.flatten ++ [(D, Obj.deferred (some []))])) := by
          rw [← List.append_assoc]; exact List.perm_append_comm
        exact h1
      refine (h _ hb w hs').mono ?_
      rintro en w' ⟨⟨y, p⟩, hr, rfl, hs2⟩
      refine ⟨(y, p), ?_, rfl, ?_⟩
      · rcases hr with ⟨h1, h2⟩ | ⟨rs1, rs2, h1, c, h2, h3⟩
        · exact .inl ⟨h1, h2⟩
        · exact .inr ⟨c, rs1, rs2, h2, h1, h3⟩
      · refine Sat.perm hs2 ?_
        simp only [List.flatten_append, List.flatten_cons, List.flatten_nil, List.append_nil, List.append_assoc]
        refine List.Perm.append_left _ (List.Perm.append_left _ ?_)
        have h1 : (([(l, lrec fn tm ps assign body D (if p.isSome then .done else .ready) p)]) ++ (Rs.flatten ++ [(D, Obj.deferred (some []))])).Perm (Rs.flatten ++ ([(D, Obj.deferred (some []))] ++ [(l, lrec fn tm ps assign body D (if p.isSome then .done else .ready) p)])) := by
          rw [← List.append_assoc Rs.flatten]; exact List.perm_append_comm
        exact h1
    · rintro rs c ⟨x, q⟩ ⟨hq, hJ⟩ hR
      simp only at hq hJ
      subst hq
      intro G
      refine YT.re (its := [[(l, lrec fn tm ps assign body D .ready none)], (S x).flatten ++ G]) ?_ (by
        have hone : ∀ st, SatI W st ([[(l, lrec fn tm ps assign body D .ready none)], (S x).flatten ++ G]) → True := fun _ _ => trivial
        refine yieldRound2 (e := e) 0 (e1 c) (N c) rfl htm hps (hsz c) ?_ ?_
        · intro hb hq a w hst hs
          have hs1 : SatI W w (S x ++ [G ++ [(l, lrec fn tm ps assign body D .ready none)]]) := Sat.perm hs (by
            simp only [List.flatten_append, List.flatten_cons, List.flatten_nil, List.append_nil]
            rw [← List.append_assoc (S x).flatten]; exact List.perm_append_comm)
          refine wpIn_mono (hA l rs c x _ hJ hR hb ⟨fun _ _ _ _ _ h => h, fun _ _ h => h⟩ a w hst hs1) ?_
          intro ex a' w' hx
          cases ex with
          | normal =>
            obtain ⟨b, h1, h2⟩ := hx
            exact ⟨b, h1, Sat.perm h2 (by
              classical exact List.perm_iff_count.2 (fun z_ => by simp only [List.set_cons_zero, List.cons_append, List.nil_append, List.flatten_append, List.flatten_cons, List.flatten_nil, List.append_nil, List.count_append, List.count_cons, List.count_nil]; omega))⟩
          | _ => exact hx.elim
        · intro b hb hq a w hst hs
          have hs1 : SatI W w (S x ++ [G ++ [(l, lrec fn tm ps assign body D .busy none)]] ++ [N c b]) := Sat.perm hs (by
              classical exact List.perm_iff_count.2 (fun z_ => by simp only [List.set_cons_zero, List.cons_append, List.nil_append, List.flatten_append, List.flatten_cons, List.flatten_nil, List.append_nil, List.count_append, List.count_cons, List.count_nil]; omega))
          refine wpIn_mono (hB l rs c x _ b hJ hR hb gq_RQ a w hst hs1) ?_
          intro ex a' w' hx
          have hback : ∀ y, SatI W w' (S y ++ [G ++ [(l, lrec fn tm ps assign body D .busy none)]]) → SatI W w' [[(l, lrec fn tm ps assign body D .busy none)], (S y).flatten ++ G] := fun y h => Sat.perm h (by
            simp only [List.flatten_append, List.flatten_cons, List.flatten_nil, List.append_nil]
            rw [← List.append_assoc]; exact List.perm_append_comm)
          have hst' : St a'.tmps.size a'.defers a' [] := ⟨rfl, rfl, fun _ _ h => by cases h⟩
          have hfin : ∀ (st : LoopState) (p : Option Code) (y : τ) (w2 : World), SatI W w2 ([[(l, lrec fn tm ps assign body D .busy none)], (S y).flatten ++ G].set 0 [(l, lrec fn tm ps assign body D st p)]) →
              SatI W w2 ([(S y).flatten ++ [(l, lrec fn tm ps assign body D st p)]] ++ [G]) := fun st p y w2 h => Sat.perm h (by
            simp only [List.set_cons_zero, List.flatten_append, List.flatten_cons, List.flatten_nil, List.append_nil]
            rw [List.append_assoc (S y).flatten]
            exact (List.perm_append_comm_assoc _ _ _))
          cases ex with
          | normal =>
            obtain ⟨y, h1, h2⟩ := hx
            exact wRound (its := [[(l, lrec fn tm ps assign body D .busy none)], (S y).flatten ++ G]) 0 ((y, none), true) rfl (.inl ⟨rfl, rfl, h1⟩) rfl (fun w2 h => hfin _ _ y w2 h) hb a' w' hst' (hback y h2)
          | exit id =>
            obtain ⟨y, h1, h2⟩ := hx
            exact wRoundX (its := [[(l, lrec fn tm ps assign body D .busy none)], (S y).flatten ++ G]) 0 ((y, some (.exit id)), false) rfl (.inr ⟨rfl, _, rfl, h1⟩) rfl (fun w2 h => hfin _ _ y w2 h) hb a' w' hst' (hback y h2)
          | ret =>
            obtain ⟨y, h1, h2⟩ := hx
            exact wRoundR (its := [[(l, lrec fn tm ps assign body D .busy none)], (S y).flatten ++ G]) 0 ((y, some .ret), false) rfl (.inr ⟨rfl, _, rfl, h1⟩) rfl (fun w2 h => hfin _ _ y w2 h) hb a' w' hst' (hback y h2)
          | _ => exact hx.elim)
      simp only [List.flatten_append, List.flatten_cons, List.flatten_nil, List.append_nil]
      rw [List.append_assoc]
      exact (List.perm_append_comm_assoc _ _ _)
  · rintro D ⟨y, p⟩ hr
    rcases hr with ⟨h1, h2⟩ | ⟨c, rs1, rs2, h1, h2, h3⟩
    · simp only at h1 h2; subst h1; exact hk D y h2
    · simp only at h1 h3; subst h1; exact hkX D y c rs1 rs2 h2 h3
/-- The return of a function with marks whose results lie in cells, too. -/
theorem sTillN {β : Type} {e1 : β → Env} {its1 : Items} {N : β → List Blk} (b : β) (h : (e1 b).map (fun p => look e p.1) = (e1 b).map (fun p => some p.2)) (hi : ∀ w, SatI W w its → SatI W w (its1 ++ [N b])) : WS P W base m n [] Q (.till (fun a w => ∃ b, St n [] a (e1 b) ∧ SatI W w (its1 ++ [N b])) :: k) e its := by
  exact sTill (fun hb a w hs hw => ⟨b, hs.sub (subE_of h), hi w hw⟩)
end
end Go.Sx
