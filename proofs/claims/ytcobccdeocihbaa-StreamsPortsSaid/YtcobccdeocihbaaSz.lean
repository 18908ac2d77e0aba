/- Rules for a range over a function, and for functions that bear marks of deferred calls. -/
import Derived.Test.YtcobccdeocihbaaSy
set_option linter.unusedVariables false
set_option linter.unusedSimpArgs false
namespace Go.Sx
open Go.RowKit
section
variable {P : Program} {W : World} {base : List Blk} {m : Option Nat} {n : Nat} {ds : List Deferred} {Q : Exit → Act → World → Prop} {k : List KI} {e : Env} {its : Items}

/-! ### A range over a function -/
def markD (D : Nat) : Deferred := { target := .collected D, args := #[] }
def dI (Ds : List Nat) : List Blk := Ds.map fun D => (D, .deferred (some []))
/-- A call of yield: what the round does. -/
def YT (P : Program) (W : World) (base : List Blk) (l : Nat) (args : Array Value) (its : Items) {α : Type} (v : α → Value) (its' : α → Items) (φ : α → Prop) : Prop :=
  BaseOk W base → ∀ w, SatI W w its → ∃ fn tmps assign body, (Instr.yield l args).run P w = .ok (.round l fn tmps assign body) w ∧
    RoundIn (FR none) 0 P l fn tmps assign body w fun en w' => ∃ r, φ r ∧ en = .returned (v r) ∧ SatI W w' (its' r)
def YF (P : Program) (W : World) (base : List Blk) (l : Nat) (args : Array Value) (its0 : Items) {α : Type} (v : α → Value) (its' : α → Items) (φ : α → Prop) : Prop :=
  ∀ F, YT P W base l args (its0 ++ [F]) v (fun r => its' r ++ [F]) φ
theorem roundIn_FR {m m' : Option Nat} {l : Nat} {f : FuncId} {tmps : Array Value} {assign body : Code} {w : World} {R : Ending → World → Prop} (h : RoundIn (FR m) 0 P l f tmps assign body w R) : RoundIn (FR m') 0 P l f tmps assign body w R :=
  ⟨trivial, fun c cs _ => h.2 c cs (FR_room _ _)⟩
theorem YF.yt {l : Nat} {args : Array Value} {α : Type} {v : α → Value} {its0 : Items} {its' : α → Items} {φ : α → Prop} (idx : List Nat)
    (h : YF P W base l args its0 v its' φ) (hn : nodupB idx = true) (hp : Sx.pick idx its = some its0) : YT P W base l args its v (fun r => its' r ++ compl idx its) φ := by
  intro hb w hs
  have h1 : SatI W w (its0 ++ [(compl idx its).flatten]) := (hs.front idx hn hp).re (by simp)
  obtain ⟨fn, tmps, assign, body, h2, h3⟩ := h _ hb w h1
  refine ⟨fn, tmps, assign, body, h2, h3.mono ?_⟩
  rintro en w' ⟨r, hr, he, hs'⟩
  exact ⟨r, hr, he, hs'.re (by simp)⟩
theorem YT.re {l : Nat} {args : Array Value} {α : Type} {v : α → Value} {its2 : Items} {its' : α → Items} {φ : α → Prop} (he : its2.flatten.Perm its.flatten) (h : YT P W base l args its v its' φ) : YT P W base l args its2 v its' φ :=
  fun hb w hs => h hb w (Sat.perm hs he)
theorem lYield {ops : Array Oper} {rest : List Oper} {o : Oper} {l : Nat} {args : Array Value} {α : Type} {v : α → Value} {its0 : Items} {its' : α → Items} {φ : α → Prop} (idx : List Nat)
    (h : YF P W base l args its0 v its' φ) (hn : nodupB idx = true) (hp : Sx.pick idx its = some its0) (hg : gok ops n e o = true) (hs : execOp (ev e) o = Instr.yield l args)
    (hk : ∀ r, φ r → WL P W base m n ds Q k ops rest (setE e o.dst (v r)) (its' r ++ compl idx its)) : WL P W base m n ds Q k ops (o :: rest) e its := by
  intro hb hq a w h1 h2
  obtain ⟨g1, g2, g3⟩ := gok_spec h1 hg
  obtain ⟨fn, tmps, assign, body, h3, h4⟩ := h.yt idx hn hp hb w h2
  unfold wpListIn
  rw [if_pos g1]
  refine ⟨fun _ _ => trivial, ?_⟩
  rw [Oper.semAt_eq _ _ _ (fun c hc => by have := gok_def hg; rw [hc] at this; cases this), g2, hs, h3]
  simp only [Oper.uponIn]
  refine ⟨FR_depth m, (roundIn_FR (m := none) h4).mono ?_⟩
  rintro en w' ⟨r, hr, rfl, hs'⟩
  exact hk r hr hb hq _ _ (h1.setE g3 (v r)) hs'

/-- The record of a loop. -/
def lrec (fn : FuncId) (tm : Array Value) (ps : Array Tmp) (assign body : Code) (D : Nat) (st : LoopState) (p : Option Code) : Obj :=
  .loop { state := st, pending := p, fn := fn, tmps := tm, params := ps, assign := assign, body := body, defers := D }
theorem setObj_run {w : World} (h : SatI W w its) {i : Nat} {b : Nat} {o o' : Obj} (hi : its[i]? = some [(b, o)]) (hnc : ∀ c T f, o ≠ .cells c T f) :
    (setObj b o').run P w = .ok () { w with heap := w.heap.setIfInBounds b o' } ∧ SatI W { w with heap := w.heap.setIfInBounds b o' } (its.set i [(b, o')]) ∧ w.heap[b]? = some o := by
  have hb : (its[i]?).bind (·[0]?) = some (b, o) := by rw [hi]; rfl
  have hh : w.heap[b]? = some o := by
    obtain ⟨l, h1, h2⟩ := Option.bind_eq_some_iff.1 hb
    exact h.has _ (List.mem_flatten.2 ⟨l, List.mem_of_getElem? h1, List.mem_of_getElem? h2⟩)
  have hlt := (Array.getElem?_eq_some_iff.1 hh).1
  refine ⟨?_, ?_, hh⟩
  · cases o <;> first | (simp only [setObj, Sem.run, hh]; done) | (exact (hnc _ _ _ rfl).elim)
  · have h1 := h.set (w' := { w with heap := w.heap.setIfInBounds b o' }) (o' := o') hb ⟨rfl, rfl, rfl, by simp⟩ (by simp [hlt]) (fun k hk => by simp only []; rw [Array.getElem?_setIfInBounds_ne (by omega)])
    simpa [setBlk, hi] using h1
theorem getLoop_run {w : World} {b : Nat} {lp : Loop} (hh : w.heap[b]? = some (.loop lp)) : (Instr.getLoop b).run P w = .ok lp w := by
  simp [Instr.getLoop, getObj, Sem.run, hh]

def parE : List Tmp → List Value → Env → Env
  | t :: ts, v :: vs, e => parE ts vs ((t, v) :: e)
  | _, _, e => e
theorem St.params {a : Act} : ∀ {ts : List Tmp} {vs : List Value} {tm : Array Value} {e : Env}, St n ds { tmps := tm, defers := ds } e → (ts.all fun t => Nat.blt t n) = true →
    St n ds { tmps := (ts.zip vs).foldl (fun tmps (t, a) => tmps.setIfInBounds t a) tm, defers := ds } (parE ts vs e)
  | [], vs, tm, e, h, _ => by simpa [parE] using h
  | t :: ts, [], tm, e, h, _ => by simpa [parE] using h
  | t :: ts, v :: vs, tm, e, h, hl => by
    simp only [List.all_cons, Bool.and_eq_true] at hl
    have h1 : St n ds { tmps := tm.setIfInBounds t v, defers := ds } ((t, v) :: e) := h.put (d := t) (v := v) (by simpa [Nat.blt_eq] using hl.1)
    simpa [parE] using St.params (a := a) (ts := ts) (vs := vs) h1 hl.2

/-- **One round**: the assignments, then the body, in the frame of the loop's own function. -/
theorem yieldRound {l D : Nat} {fn : FuncId} {tm : Array Value} {ps : Array Tmp} {assign body : Code} {args : Array Value} {α : Type} {v : α → Value} {its' : α → Items} {φ : α → Prop} (i : Nat) (e1 : Env)
    (hi : its[i]? = some [(l, lrec fn tm ps assign body D .ready none)]) (htm : St n [] { tmps := tm, defers := [] } e) (hps : (ps.toList.all fun t => Nat.blt t n) = true) (hsz : args.size = ps.size)
    (hA : WS P W base (some l) n [] (fun _ _ _ => False) [.code assign, .till fun a w => St n [] a e1 ∧ SatI W w its] (parE ps.toList args.toList e) its)
    (hB : WS P W base (some l) n [] (roundPost P l (RT W v its' φ)) [.code body] e1 (its.set i [(l, lrec fn tm ps assign body D .busy none)])) :
    YT P W base l args its v its' φ := by
  intro hb w hs
  have hh := (setObj_run (P := P) (o' := lrec fn tm ps assign body D .ready none) hs hi (by intro c T f h; cases h)).2.2
  have hy : (Instr.yield l args).run P w = .ok (.round l fn ((ps.zip args).foldl (fun tmps (t, a) => tmps.setIfInBounds t a) tm) assign body) w := by
    simp [Instr.yield, getLoop_run hh, hsz]
  refine ⟨_, _, _, _, hy, ?_⟩
  have hF : (FR none).inRound l = FR (some l) := rfl
  refine roundIn_of_wpIn trivial ?_
  rw [hF]
  have hst : St n [] { tmps := (ps.zip args).foldl (fun tmps (t, a) => tmps.setIfInBounds t a) tm, defers := [] } (parE ps.toList args.toList e) := by
    have h1 := St.params (a := { tmps := tm, defers := [] }) (vs := args.toList) htm hps
    rw [← Array.foldl_toList, Array.toList_zip]; exact h1
  have gF : GQ (fun (_ : Exit) (_ : Act) (_ : World) => False) := ⟨fun _ _ _ _ _ h => h, fun _ _ h => h⟩
  have h1 := hA hb gF _ w hst hs
  refine wpIn_mono h1 ?_
  intro x a w' hx
  cases x with
  | normal =>
    obtain ⟨h2, h3⟩ := hx
    obtain ⟨r1, r2, r3⟩ := setObj_run (P := P) (o' := lrec fn tm ps assign body D .busy none) h3 hi (by intro c T f h; cases h)
    refine ⟨_, ?_, hB hb ⟨fun _ _ _ _ _ h => h, fun _ _ h => h⟩ a _ h2 r2⟩
    simp only [Instr.beginRound, Sem.run_bind, getLoop_run r3, Result.andThen_ok]
    rw [show (setObj l (.loop { ({ state := .ready, pending := none, fn := fn, tmps := tm, params := ps, assign := assign, body := body, defers := D } : Loop) with state := .busy })).run P w' = .ok () _ from r1]
    rfl
  | _ => exact hx.elim
/-- The round's end: it falls off; it leaves by an exit that nobody in it catches; by a return. -/
theorem wRound {l D : Nat} {fn : FuncId} {tm : Array Value} {ps : Array Tmp} {assign body : Code} {α : Type} {v : α → Value} {its' : α → Items} {φ : α → Prop} (i : Nat) (r : α)
    (hi : its[i]? = some [(l, lrec fn tm ps assign body D .busy none)]) (hφ : φ r) (hv : v r = .bool true) (hm : ∀ w, SatI W w (its.set i [(l, lrec fn tm ps assign body D .ready none)]) → SatI W w (its' r)) :
    WF W base n ds (roundPost P l (RT W v its' φ)) .normal e its := by
  intro hb a w _ hs
  obtain ⟨r1, r2, r3⟩ := setObj_run (P := P) (o' := lrec fn tm ps assign body D .ready none) hs hi (by intro c T f h; cases h)
  refine ⟨.bool true, _, ?_, r, hφ, by rw [hv], hm _ r2⟩
  simp only [Instr.endRound, Sem.run_bind, getLoop_run r3, Result.andThen_ok, Option.isNone_none, if_true]
  rw [show (setObj l (.loop { ({ state := .busy, pending := none, fn := fn, tmps := tm, params := ps, assign := assign, body := body, defers := D } : Loop) with state := .ready, pending := none })).run P w = .ok () _ from r1]
  rfl
theorem wRoundX {l D id : Nat} {fn : FuncId} {tm : Array Value} {ps : Array Tmp} {assign body : Code} {α : Type} {v : α → Value} {its' : α → Items} {φ : α → Prop} (i : Nat) (r : α)
    (hi : its[i]? = some [(l, lrec fn tm ps assign body D .busy none)]) (hφ : φ r) (hv : v r = .bool false) (hm : ∀ w, SatI W w (its.set i [(l, lrec fn tm ps assign body D .done (some (.exit id)))]) → SatI W w (its' r)) :
    WF W base n ds (roundPost P l (RT W v its' φ)) (.exit id) e its := by
  intro hb a w _ hs
  obtain ⟨r1, r2, r3⟩ := setObj_run (P := P) (o' := lrec fn tm ps assign body D .done (some (.exit id))) hs hi (by intro c T f h; cases h)
  refine ⟨.bool false, _, ?_, r, hφ, by rw [hv], hm _ r2⟩
  simp only [Instr.endRound, Sem.run_bind, getLoop_run r3, Result.andThen_ok, Option.isNone_some, Bool.false_eq_true, if_false]
  rw [show (setObj l (.loop { ({ state := .busy, pending := none, fn := fn, tmps := tm, params := ps, assign := assign, body := body, defers := D } : Loop) with state := .done, pending := some (.exit id) })).run P w = .ok () _ from r1]
  rfl
theorem wRoundR {l D : Nat} {fn : FuncId} {tm : Array Value} {ps : Array Tmp} {assign body : Code} {α : Type} {v : α → Value} {its' : α → Items} {φ : α → Prop} (i : Nat) (r : α)
    (hi : its[i]? = some [(l, lrec fn tm ps assign body D .busy none)]) (hφ : φ r) (hv : v r = .bool false) (hm : ∀ w, SatI W w (its.set i [(l, lrec fn tm ps assign body D .done (some .ret))]) → SatI W w (its' r)) :
    WF W base n ds (roundPost P l (RT W v its' φ)) .ret e its := by
  intro hb a w _ hs
  obtain ⟨r1, r2, r3⟩ := setObj_run (P := P) (o' := lrec fn tm ps assign body D .done (some .ret)) hs hi (by intro c T f h; cases h)
  refine ⟨.bool false, _, ?_, r, hφ, by rw [hv], hm _ r2⟩
  simp only [Instr.endRound, Sem.run_bind, getLoop_run r3, Result.andThen_ok, Option.isNone_some, Bool.false_eq_true, if_false]
  rw [show (setObj l (.loop { ({ state := .busy, pending := none, fn := fn, tmps := tm, params := ps, assign := assign, body := body, defers := D } : Loop) with state := .done, pending := some .ret })).run P w = .ok () _ from r1]
  rfl

/-- **The statement** in an activation. The iterator's call, at whatever numbers D, l of the two new blocks and whatever the record holds of the temporaries; behind it the pending jump, if there is one. -/
theorem sRange {g : Operand} {ps : Array Tmp} {assign body : Code} {f : FuncId} {first cap : Array Value} {α : Type} (v : α → Value) (its' : Nat → α → Items) (φ : α → Prop) (pend : α → Option Code)
    (hg : (hasOp e g, ev e g) = (true, .func (.func f) first cap)) (hf : ∀ (args : Array Value) (w : World), (callFunc f args).run P w = .ok (.enter f args) w)
    (hc : ∀ D l fn tm, St n [] { tmps := tm, defers := [] } e →
      CT P W base f (first ++ #[.func (.yield l) #[] #[]] ++ cap) (its ++ [[(D, .deferred (some []))], [(l, lrec fn tm ps assign body D .ready none)]]) v
        (fun r => its' D r ++ [[(l, lrec fn tm ps assign body D (if (pend r).isSome then .done else .ready) (pend r))]]) φ)
    (hk : ∀ D r, φ r → WS P W base none n (markD D :: ds) Q (((pend r).map KI.code).toList ++ k) e (its' D r)) :
    WS P W base none n ds Q (.code (.rangeFunc g ps assign body) :: k) e its := by
  intro hb hq a w hs hi
  refine wpIn_rangeFunc ?_
  intro fn _
  have hd : a.defers = ds := hs.defers
  have hs0 : St n [] { tmps := a.tmps, defers := [] } e := ⟨hs.size, rfl, hs.ag⟩
  have hev : a.eval g = .func (.func f) first cap := (hs.eval (Prod.mk.inj hg).1).trans (Prod.mk.inj hg).2
  have s1 : SatI W { w with heap := (w.heap.push (.deferred (some []))).push (lrec fn a.tmps ps assign body w.heap.size .ready none) }
      (its ++ [[(w.heap.size, .deferred (some []))], [(w.heap.size + 1, lrec fn a.tmps ps assign body w.heap.size .ready none)]]) := by
    have h1 := Sat.new hi (.deferred (some []))
    have h2 := Sat.new h1 (lrec fn a.tmps ps assign body w.heap.size .ready none)
    unfold SatI
    simpa [SatI] using h2
  refine ⟨w.heap.size + 1, [markD w.heap.size], _, { target := .fn (.func f) cap, args := first ++ #[.func (.yield (w.heap.size + 1)) #[] #[]] }, { w with heap := (w.heap.push (.deferred (some []))).push (lrec fn a.tmps ps assign body w.heap.size .ready none) }, f, first ++ #[.func (.yield (w.heap.size + 1)) #[] #[]] ++ cap, { w with heap := (w.heap.push (.deferred (some []))).push (lrec fn a.tmps ps assign body w.heap.size .ready none) },
    (by
      show (Instr.enterLoop fn a.tmps ps assign body none).run P w = .ok (w.heap.size + 1, [markD w.heap.size]) { w with heap := (w.heap.push (.deferred (some []))).push (lrec fn a.tmps ps assign body w.heap.size .ready none) }
      simp [Instr.enterLoop, newObj, Sem.run, lrec, markD]
      rfl), ?_, fun _ _ => trivial, ?_, FR_depth none, ?_⟩
  · simp only [resolve, hev]
    simp [Deferred.ofValue, show a.eval (.const (.func (.yield (w.heap.size + 1)) #[] #[])) = .func (.yield (w.heap.size + 1)) #[] #[] from rfl]
  · exact hf _ _
  · refine callsIn_FR.2 ?_
    refine (hc w.heap.size (w.heap.size + 1) fn a.tmps hs0 hb _ s1).mono ?_
    rintro en w3 ⟨r, hr, rfl, hs3⟩
    have hil : (its' w.heap.size r ++ [[(w.heap.size + 1, lrec fn a.tmps ps assign body w.heap.size (if (pend r).isSome then .done else .ready) (pend r))]])[(its' w.heap.size r).length]? =
        some [(w.heap.size + 1, lrec fn a.tmps ps assign body w.heap.size (if (pend r).isSome then .done else .ready) (pend r))] := by simp
    obtain ⟨r1, r2, r3⟩ := setObj_run (P := P) (o' := lrec fn a.tmps ps assign body w.heap.size .exhausted (pend r)) hs3 hil (by intro c T f h; cases h)
    refine ⟨pend r, { w3 with heap := w3.heap.setIfInBounds (w.heap.size + 1) (lrec fn a.tmps ps assign body w.heap.size .exhausted (pend r)) }, ?_, ?_⟩
    · simp only [Instr.endLoop, Sem.run_bind, getLoop_run r3, Result.andThen_ok]
      have hbusy : ((if (pend r).isSome = true then LoopState.done else LoopState.ready) == LoopState.busy) = false := by cases (pend r).isSome <;> rfl
      simp only [hbusy, Bool.false_eq_true, if_false]
      simp only [lrec] at r1
      simp [r1, lrec]
    · have s2 : SatI W { w3 with heap := w3.heap.setIfInBounds (w.heap.size + 1) (lrec fn a.tmps ps assign body w.heap.size .exhausted (pend r)) } (its' w.heap.size r) := by
        refine Sat.left (l' := [(w.heap.size + 1, lrec fn a.tmps ps assign body w.heap.size .exhausted (pend r))]) ?_
        unfold SatI at r2
        simpa using r2
      have hst : St n (markD w.heap.size :: ds) { a with defers := [markD w.heap.size] ++ a.defers } e := ⟨hs.size, by simp [hd], hs.ag⟩
      have h4 := hk w.heap.size r hr hb hq _ _ hst s2
      cases hp : pend r with
      | none => rw [hp] at h4; exact h4
      | some c => rw [hp] at h4; exact h4

/-! ### A function that ranges over a function: its head and its return -/
theorem leavesM {fn : Func} {tmps : Array Value} {R : Ending → World → Prop} {u : Value} : ∀ (Ds : List Nat) (w : World) (its : Items), SatI W w (dI Ds :: its) →
    (∀ w', SatI W w' its → (results fn tmps).run P w' = .ok u w' ∧ R (.returned u) w') → LeavesInM (FR none) 0 P fn tmps R (Ds.map markD) .returning w
  | [], w, its, hs, h => by
    obtain ⟨h1, h2⟩ := h w (hs.re (by simp [dI]))
    exact ⟨u, h1, h2⟩
  | D :: Ds, w, its, hs, h => by
    have hs' : SatI W w ([(D, .deferred (some []))] :: dI Ds :: its) := hs.re (by simp [dI])
    obtain ⟨r1, r2, r3⟩ := setObj_run (P := P) (o := .deferred (some [])) (b := D) (o' := .deferred none) (i := 0) hs' rfl (by intro c T f h; cases h)
    refine ⟨by simp, .inl ⟨D, { w with heap := w.heap.setIfInBounds D (.deferred none) }, rfl, ?_, leavesM Ds { w with heap := w.heap.setIfInBounds D (.deferred none) } its ?_ h⟩⟩
    · simp only [Instr.takeDeferred, Sem.run_bind, getObj, Sem.run, r3, Result.andThen_ok, Sem.run_pure]
      rw [r1]; rfl
    · exact (SatI.re (its' := [(D, .deferred none)] :: dI Ds :: its) r2 (by simp)).weaken (by intro p hp; simp only [List.flatten_cons] at hp ⊢; exact List.mem_append_right _ hp)
        (by have := r2.nd; simp only [List.set_cons_zero, List.flatten_cons, List.map_append] at this; simp only [List.flatten_cons, List.map_append]; exact (List.nodup_append.1 this).2.1)
theorem gq_bodyM {fn : Func} {α : Type} {v : α → Value} {its' : α → Items} {φ : α → Prop} : GQ (fun x a w => x ≠ .outgrown ∧ (∀ c, x ≠ .panic c) ∧ bodyPostM (FR none) 0 P fn (RT W v its' φ) x a w) :=
  ⟨fun _ _ _ _ _ h => (h.2.1 _ rfl).elim, fun _ _ h => h.1 rfl⟩
def postM (P : Program) (fn : Func) (R : Ending → World → Prop) : Exit → Act → World → Prop := fun x a w => x ≠ .outgrown ∧ (∀ c, x ≠ .panic c) ∧ bodyPostM (FR none) 0 P fn R x a w
theorem ctIntroM {f : FuncId} {fn : Func} {c : Code} {args : Array Value} {α : Type} {v : α → Value} {its' : α → Items} {φ : α → Prop}
    (hf : P.funcs[f]? = some fn) (hb : fn.body = some c) (hn : fn.ntmps = n) (ha : Nat.ble args.size n = true)
    (h : WS P W base none n ([] : List Deferred) (postM P fn (RT W v its' φ)) [.code c] (argE args.toList 0) its) : CT P W base f args its v its' φ := by
  intro hbase w hs
  refine callsIn_FR.1 (callsIn_of_wp_marks (F := FR none) (n := 0) hf hb trivial ?_)
  have hle : args.size ≤ n := by simpa using ha
  have h1 := h hbase gq_bodyM { tmps := args ++ Array.replicate (fn.ntmps - args.size) undef, defers := [] } w
    ⟨by simp [hn]; omega, rfl, fun j u hj => ?_⟩ hs
  · exact wpIn_mono h1 (fun x a w hx => hx.2.2)
  · obtain ⟨_, h2⟩ := look_argE hj
    simp only [Nat.sub_zero] at h2
    obtain ⟨h3, h4⟩ := List.getElem?_eq_some_iff.1 h2
    simp only [Array.length_toList] at h3
    rw [Array.getElem?_append_left h3]
    simpa using h2
theorem wRetM {fn : Func} {α : Type} {v : α → Value} {its' : α → Items} {φ : α → Prop} {Ds : List Nat} (r : α) (u : Value) (rs : List ResultVar) (hds : ds = Ds.map markD) (hrs : fn.results.toList = rs)
    (hu : (resOk rs e, ex P base false (0, 0) (resS rs e) [] [] []) = (true, some ⟨u, [], [], []⟩))
    (hv : u = v r) (hφ : φ r) (its1 : Items) (hi : ∀ w, SatI W w its → SatI W w (dI Ds :: its1)) (hm : ∀ w, SatI W w its1 → SatI W w (its' r)) : WF W base n ds (postM P fn (RT W v its' φ)) .ret e its := by
  intro hb a w hs hsat
  subst hrs; subst hds
  obtain ⟨h1, h2⟩ := Prod.mk.inj hu
  refine ⟨by simp, by simp, ?_⟩
  show LeavesInM (FR none) 0 P fn a.tmps (RT W v its' φ) a.defers .returning w
  rw [hs.defers]
  refine leavesM (u := u) Ds w its1 (hi w hsat) (fun w' hw' => ?_)
  obtain ⟨w'', e1, _, _, e4⟩ := ex_sound (W := w') (base := base) (its := []) (w := w') (by
      intro p hp; have hlt := (Array.getElem?_eq_some_iff.1 (hb p hp)).1; rw [hw'.below.block p.1 hlt]; exact hb p hp) _ h2 ⟨Below.refl _ _, by simp, by simp, by simp⟩ trivial (by simp)
  obtain ⟨rfl, _⟩ := e4 rfl
  exact ⟨by rw [results_ev hs h1]; exact e1, r, hφ, by rw [hv], hm _ hw'⟩

/-! ### A range over an iterator whose contract is known -/
/-- What a round leaves: it falls off, or it leaves by a jump. -/
def RQ (W : World) {τ : Type} (S : τ → Items) (G : List Blk) (J : τ → Prop) (K : Code → τ → Prop) : Exit → Act → World → Prop := fun x _ w => match x with
  | .normal => ∃ y, J y ∧ SatI W w (S y ++ [G])
  | .exit id => ∃ y, K (.exit id) y ∧ SatI W w (S y ++ [G])
  | .ret => ∃ y, K .ret y ∧ SatI W w (S y ++ [G])
  | _ => False
theorem gq_RQ {τ : Type} {S : τ → Items} {G : List Blk} {J : τ → Prop} {K : Code → τ → Prop} : GQ (RQ W S G J K) := ⟨fun _ _ _ _ _ h => h, fun _ _ h => h⟩
theorem rqN {τ : Type} {S : τ → Items} {G : List Blk} {J : τ → Prop} {K : Code → τ → Prop} (y : τ) (h : J y) (hm : ∀ w, SatI W w its → SatI W w (S y ++ [G])) : WF W base n ds (RQ W S G J K) .normal e its :=
  fun _ _ w _ hs => ⟨y, h, hm w hs⟩
theorem rqX {τ : Type} {S : τ → Items} {G : List Blk} {J : τ → Prop} {K : Code → τ → Prop} {id : Nat} (y : τ) (h : K (.exit id) y) (hm : ∀ w, SatI W w its → SatI W w (S y ++ [G])) : WF W base n ds (RQ W S G J K) (.exit id) e its :=
  fun _ _ w _ hs => ⟨y, h, hm w hs⟩
theorem rqR {τ : Type} {S : τ → Items} {G : List Blk} {J : τ → Prop} {K : Code → τ → Prop} (y : τ) (h : K .ret y) (hm : ∀ w, SatI W w its → SatI W w (S y ++ [G])) : WF W base n ds (RQ W S G J K) .ret e its :=
  fun _ _ w _ hs => ⟨y, h, hm w hs⟩
/-- The contract of an iterator that yields the list xs. -/
def IterOk (P : Program) (W : World) (base : List Blk) (f : FuncId) (first cap : Array Value) (I0 : Items) {γ : Type} (ya : γ → Array Value) (xs : List γ) : Prop :=
  ∀ (l : Nat) (σ : Type) (B : σ → List Blk) (J K : List γ → σ → Prop), (∀ rs c x, J rs x → (∃ t, xs = rs ++ c :: t) → YF P W base l (ya c) [B x] (fun r : σ × Bool => .bool r.2) (fun r => [B r.1]) (fun r => (r.2 = true ∧ J (rs ++ [c]) r.1) ∨ (r.2 = false ∧ K (rs ++ [c]) r.1))) →
    ∀ x0, J [] x0 → CF P W base f (first ++ #[.func (.yield l) #[] #[]] ++ cap) (I0 ++ [B x0]) (fun _ : σ => .tuple #[]) (fun r => I0 ++ [B r]) (fun r => J xs r ∨ ∃ rs1 rs2, xs = rs1 ++ rs2 ∧ K rs1 r)
theorem sRangeIt {g : Operand} {ps : Array Tmp} {assign body : Code} {f : FuncId} {first cap : Array Value} {I0 Rs : Items} {γ τ : Type} {ya : γ → Array Value} {xs : List γ} (hIt : IterOk P W base f first cap I0 ya xs)
    (S : τ → Items) (J : List γ → τ → Prop) (K : List γ → Code → τ → Prop) (e1 : γ → Env) (x0 : τ) (hx : J [] x0) (hi : I0 ++ S x0 ++ Rs = its)
    (hg : (hasOp e g, ev e g) = (true, .func (.func f) first cap)) (hf : ∀ (args : Array Value) (w : World), (callFunc f args).run P w = .ok (.enter f args) w)
    (hps : (ps.toList.all fun t => Nat.blt t n) = true) (hsz : ∀ c, (ya c).size = ps.size)
    (hA : ∀ l rs c x G, J rs x → (∃ t, xs = rs ++ c :: t) → WS P W base (some l) n [] (fun _ _ _ => False) [.code assign, .till fun a w => St n [] a (e1 c) ∧ SatI W w (S x ++ [G])] (parE ps.toList (ya c).toList e) (S x ++ [G]))
    (hB : ∀ l rs c x G, J rs x → (∃ t, xs = rs ++ c :: t) → WS P W base (some l) n [] (RQ W S G (J (rs ++ [c])) (K (rs ++ [c]))) [.code body] (e1 c) (S x ++ [G]))
    (hk : ∀ D y, J xs y → WS P W base none n (markD D :: ds) Q k e (I0 ++ S y ++ Rs ++ [[(D, .deferred (some []))]]))
    (hkX : ∀ D y c rs1 rs2, xs = rs1 ++ rs2 → K rs1 c y → WS P W base none n (markD D :: ds) Q (.code c :: k) e (I0 ++ S y ++ Rs ++ [[(D, .deferred (some []))]])) :
    WS P W base none n ds Q (.code (.rangeFunc g ps assign body) :: k) e its := by
  subst hi
  refine sRange (α := τ × Option Code) (fun _ => .tuple #[]) (fun D r => I0 ++ S r.1 ++ Rs ++ [[(D, .deferred (some []))]]) (fun r => (r.2 = none ∧ J xs r.1) ∨ ∃ c rs1 rs2, r.2 = some c ∧ xs = rs1 ++ rs2 ∧ K rs1 c r.1) (·.2) hg hf ?_ ?_
  · intro D l fn tm htm
    have h := hIt l (τ × Option Code) (fun x => (S x.1).flatten ++ [(l, lrec fn tm ps assign body D (if x.2.isSome then .done else .ready) x.2)]) (fun rs x => x.2 = none ∧ J rs x.1) (fun rs x => ∃ c, x.2 = some c ∧ K rs c x.1)
      ?_ (x0, none) ⟨rfl, hx⟩
    · intro hb w hs
      have hs' : SatI W w ((I0 ++ [(S x0).flatten ++ [(l, lrec fn tm ps assign body D .ready none)]]) ++ [Rs.flatten ++ [(D, .deferred (some []))]]) := by
        refine Sat.perm hs ?_
        simp only [List.flatten_append, List.flatten_cons, List.flatten_nil, List.append_nil, List.append_assoc]
        refine List.Perm.append_left _ (List.Perm.append_left _ ?_)
        have h1 : (Rs.flatten ++ ([(D, Obj.deferred (some []))] ++ [(l, lrec fn tm ps assign body D .ready none)])).Perm (([(l, lrec fn tm ps assign body D .ready none)]) ++ (Rs.flatten ++ [(D, Obj.deferred (some []))])) := by
          rw [← List.append_assoc]; exact List.perm_append_comm
        exact h1
      refine (h _ hb w hs').mono ?_
      rintro en w' ⟨⟨y, p⟩, hr, rfl, hs2⟩
      refine ⟨(y, p), ?_, rfl, ?_⟩
      · rcases hr with ⟨h1, h2⟩ | ⟨rs1, rs2, h1, c, h2, h3⟩
        · exact .inl ⟨h1, h2⟩
        · exact .inr ⟨c, rs1, rs2, h2, h1, h3⟩
      · refine Sat.perm hs2 ?_
        simp only [List.flatten_append, List.flatten_cons, List.flatten_nil, List.append_nil, List.append_assoc]
        refine List.Perm.append_left _ (List.Perm.append_left _ ?_)
        have h1 : (([(l, lrec fn tm ps assign body D (if p.isSome then .done else .ready) p)]) ++ (Rs.flatten ++ [(D, Obj.deferred (some []))])).Perm (Rs.flatten ++ ([(D, Obj.deferred (some []))] ++ [(l, lrec fn tm ps assign body D (if p.isSome then .done else .ready) p)])) := by
          rw [← List.append_assoc Rs.flatten]; exact List.perm_append_comm
        exact h1
    · rintro rs c ⟨x, q⟩ ⟨hq, hJ⟩ hR
      simp only at hq hJ
      subst hq
      intro G
      refine YT.re (its := [[(l, lrec fn tm ps assign body D .ready none)], (S x).flatten ++ G]) ?_ (by
        have hone : ∀ st, SatI W st ([[(l, lrec fn tm ps assign body D .ready none)], (S x).flatten ++ G]) → True := fun _ _ => trivial
        refine yieldRound (e := e) 0 (e1 c) rfl htm hps (hsz c) ?_ ?_
        · intro hb hq a w hst hs
          have hs1 : SatI W w (S x ++ [G ++ [(l, lrec fn tm ps assign body D .ready none)]]) := Sat.perm hs (by
            simp only [List.flatten_append, List.flatten_cons, List.flatten_nil, List.append_nil]
            rw [← List.append_assoc (S x).flatten]; exact List.perm_append_comm)
          refine wpIn_mono (hA l rs c x _ hJ hR hb ⟨fun _ _ _ _ _ h => h, fun _ _ h => h⟩ a w hst hs1) ?_
          intro ex a' w' hx
          cases ex with
          | normal =>
            obtain ⟨h1, h2⟩ := hx
            exact ⟨h1, Sat.perm h2 (by
              simp only [List.flatten_append, List.flatten_cons, List.flatten_nil, List.append_nil]
              rw [← List.append_assoc]; exact List.perm_append_comm)⟩
          | _ => exact hx.elim
        · intro hb hq a w hst hs
          have hs1 : SatI W w (S x ++ [G ++ [(l, lrec fn tm ps assign body D .busy none)]]) := Sat.perm hs (by
            simp only [List.set_cons_zero, List.flatten_append, List.flatten_cons, List.flatten_nil, List.append_nil]
            rw [← List.append_assoc (S x).flatten]; exact List.perm_append_comm)
          refine wpIn_mono (hB l rs c x _ hJ hR hb gq_RQ a w hst hs1) ?_
          intro ex a' w' hx
          have hback : ∀ y, SatI W w' (S y ++ [G ++ [(l, lrec fn tm ps assign body D .busy none)]]) → SatI W w' [[(l, lrec fn tm ps assign body D .busy none)], (S y).flatten ++ G] := fun y h => Sat.perm h (by
            simp only [List.flatten_append, List.flatten_cons, List.flatten_nil, List.append_nil]
            rw [← List.append_assoc]; exact List.perm_append_comm)
          have hst' : St a'.tmps.size a'.defers a' [] := ⟨rfl, rfl, fun _ _ h => by cases h⟩
          have hfin : ∀ (st : LoopState) (p : Option Code) (y : τ) (w2 : World), SatI W w2 ([[(l, lrec fn tm ps assign body D .busy none)], (S y).flatten ++ G].set 0 [(l, lrec fn tm ps assign body D st p)]) →
              SatI W w2 ([(S y).flatten ++ [(l, lrec fn tm ps assign body D st p)]] ++ [G]) := fun st p y w2 h => Sat.perm h (by
            simp only [List.set_cons_zero, List.flatten_append, List.flatten_cons, List.flatten_nil, List.append_nil]
            rw [List.append_assoc (S y).flatten]
            exact (List.perm_append_comm_assoc _ _ _))
          cases ex with
          | normal =>
            obtain ⟨y, h1, h2⟩ := hx
            exact wRound (its := [[(l, lrec fn tm ps assign body D .busy none)], (S y).flatten ++ G]) 0 ((y, none), true) rfl (.inl ⟨rfl, rfl, h1⟩) rfl (fun w2 h => hfin _ _ y w2 h) hb a' w' hst' (hback y h2)
          | exit id =>
            obtain ⟨y, h1, h2⟩ := hx
            exact wRoundX (its := [[(l, lrec fn tm ps assign body D .busy none)], (S y).flatten ++ G]) 0 ((y, some (.exit id)), false) rfl (.inr ⟨rfl, _, rfl, h1⟩) rfl (fun w2 h => hfin _ _ y w2 h) hb a' w' hst' (hback y h2)
          | ret =>
            obtain ⟨y, h1, h2⟩ := hx
            exact wRoundR (its := [[(l, lrec fn tm ps assign body D .busy none)], (S y).flatten ++ G]) 0 ((y, some .ret), false) rfl (.inr ⟨rfl, _, rfl, h1⟩) rfl (fun w2 h => hfin _ _ y w2 h) hb a' w' hst' (hback y h2)
          | _ => exact hx.elim)
      simp only [List.flatten_append, List.flatten_cons, List.flatten_nil, List.append_nil]
      rw [List.append_assoc]
      exact (List.perm_append_comm_assoc _ _ _)
  · rintro D ⟨y, p⟩ hr
    rcases hr with ⟨h1, h2⟩ | ⟨c, rs1, rs2, h1, h2, h3⟩
    · simp only at h1 h2; subst h1; exact hk D y h2
    · simp only at h1 h3; subst h1; exact hkX D y c rs1 rs2 h2 h3
/-- The return of a function with marks whose results lie in cells, too. -/
theorem wRetC {fn : Func} {α : Type} {v : α → Value} {its' : α → Items} {φ : α → Prop} {Ds : List Nat} (r : α) (h : Nat × Nat) (bs : List Nat) (u : Value) (rs : List ResultVar) (its1 : Items) (hds : ds = Ds.map markD) (hrs : fn.results.toList = rs)
    (hu : (resOk rs e, ex P base false h (resS rs e) its1 [] []) = (true, some ⟨u, its1, [], dbl bs⟩))
    (hv : u = v r) (hφ : φ r) (hi : ∀ w, SatI W w its → SatI W w (dI Ds :: its1)) (hm : ∀ w, SatI W w its1 → SatI W w (its' r)) : WF W base n ds (postM P fn (RT W v its' φ)) .ret e its := by
  intro hb a w hs hsat
  subst hrs; subst hds
  obtain ⟨h1, h2⟩ := Prod.mk.inj hu
  refine ⟨by simp, by simp, ?_⟩
  show LeavesInM (FR none) 0 P fn a.tmps (RT W v its' φ) a.defers .returning w
  rw [hs.defers]
  refine leavesM (u := u) Ds w its1 (hi w hsat) (fun w' hw' => ?_)
  obtain ⟨w'', e1, _, _, e4⟩ := ex_sound hb _ h2 hw' trivial dbl_eq
  obtain ⟨rfl, _⟩ := e4 rfl
  exact ⟨by rw [results_ev hs h1]; exact e1, r, hφ, by rw [hv], hm _ hw'⟩
theorem sTillR {e1 : Env} {its1 : Items} (h : e1.map (fun p => look e p.1) = e1.map (fun p => some p.2)) (hi : its = its1) : WS P W base m n [] Q (.till (fun a w => St n [] a e1 ∧ SatI W w its1) :: k) e its :=
  sTill fun _ _ _ hs hsat => ⟨hs.sub (subE_of h), hi ▸ hsat⟩
end
end Go.Sx
