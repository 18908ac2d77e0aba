/- Laws on loads, stores, slices that own their array, append, maps, and slices of the arguments, for the walk calculus. -/
import Derived.Test.YtcobccdeocihbaaSx
import Derived.Laws.AppendOwn
import Derived.Laws.MakeOwn
set_option linter.unusedVariables false
set_option linter.unusedSimpArgs false
namespace Go.Sx
open Go.RowKit
section
variable {P : Program} {W : World} {base : List Blk} {its : Items}

/-! ### Arrays of elements of k cells each -/
def arr {α : Type} (f : α → List Value) (xs : List α) (rest : List Value) : Array Value := (xs.flatMap f ++ rest).toArray
theorem flatMap_get {α : Type} {f : α → List Value} {k : Nat} (hk : ∀ x, (f x).length = k) : ∀ {xs : List α} {i : Nat} {x : α}, xs[i]? = some x → ∀ {t : Nat}, t < k → (xs.flatMap f)[i * k + t]? = (f x)[t]?
  | [], i, x, h, t, ht => by simp at h
  | y :: xs, 0, x, h, t, ht => by
    simp only [List.getElem?_cons_zero, Option.some.injEq] at h; subst h
    simp only [List.flatMap_cons, Nat.zero_mul, Nat.zero_add]
    rw [List.getElem?_append_left (by rw [hk]; exact ht)]
  | y :: xs, i + 1, x, h, t, ht => by
    simp only [List.getElem?_cons_succ] at h
    simp only [List.flatMap_cons]
    have e1 : (i + 1) * k + t = (f y).length + (i * k + t) := by rw [hk, Nat.add_mul]; omega
    rw [e1, List.getElem?_append_right (by omega), show (f y).length + (i * k + t) - (f y).length = i * k + t from by omega]
    exact flatMap_get hk h ht
theorem flatMap_len {α : Type} {f : α → List Value} {k : Nat} (hk : ∀ x, (f x).length = k) : ∀ (xs : List α), (xs.flatMap f).length = xs.length * k
  | [] => by simp
  | y :: xs => by rw [List.flatMap_cons, List.length_append, hk, flatMap_len hk xs, List.length_cons, Nat.add_mul]; omega
theorem arr_size {α : Type} {f : α → List Value} {k : Nat} (hk : ∀ x, (f x).length = k) (xs : List α) (rest : List Value) : (arr f xs rest).size = xs.length * k + rest.length := by
  simp [arr, flatMap_len hk]
theorem arr_get {α : Type} {f : α → List Value} {k : Nat} (hk : ∀ x, (f x).length = k) {xs : List α} {rest : List Value} {i : Nat} {x : α} (h : xs[i]? = some x) {t : Nat} (ht : t < k) :
    (arr f xs rest)[i * k + t]? = (f x)[t]? := by
  have h1 := flatMap_get hk h ht
  have hlt : i * k + t < (xs.flatMap f).length := by
    rw [flatMap_len hk]
    have := (List.getElem?_eq_some_iff.1 h).1
    calc i * k + t < i * k + k := by omega
      _ = (i + 1) * k := by rw [Nat.add_mul]; omega
      _ ≤ xs.length * k := Nat.mul_le_mul_right _ this
  simp only [arr, List.getElem?_toArray]
  rw [List.getElem?_append_left hlt]; exact h1
theorem flatMap_set {α : Type} {f : α → List Value} {k : Nat} (hk : ∀ x, (f x).length = k) : ∀ {xs : List α} {i : Nat} {x y : α}, xs[i]? = some x → ∀ {t : Nat} {v : Value}, t < k → f y = (f x).set t v →
    (xs.flatMap f).set (i * k + t) v = (xs.set i y).flatMap f
  | [], i, x, y, h, t, v, ht, e => by simp at h
  | z :: xs, 0, x, y, h, t, v, ht, e => by
    simp only [List.getElem?_cons_zero, Option.some.injEq] at h; subst h
    simp only [List.flatMap_cons, Nat.zero_mul, Nat.zero_add, List.set_cons_zero, e]
    rw [List.set_append_left _ _ (by rw [hk]; exact ht)]
  | z :: xs, i + 1, x, y, h, t, v, ht, e => by
    simp only [List.getElem?_cons_succ] at h
    simp only [List.flatMap_cons, List.set_cons_succ]
    have e1 : (i + 1) * k + t = (f z).length + (i * k + t) := by rw [hk, Nat.add_mul]; omega
    rw [e1, List.set_append_right _ _ (by omega), show (f z).length + (i * k + t) - (f z).length = i * k + t from by omega, flatMap_set hk h ht e]
theorem arr_set {α : Type} {f : α → List Value} {k : Nat} (hk : ∀ x, (f x).length = k) {xs : List α} {rest : List Value} {i : Nat} {x y : α} (h : xs[i]? = some x) {t : Nat} {v : Value} (ht : t < k) (e : f y = (f x).set t v) :
    (arr f xs rest).setIfInBounds (i * k + t) v = arr f (xs.set i y) rest := by
  have hlt : i * k + t < (xs.flatMap f).length := by
    rw [flatMap_len hk]
    have := (List.getElem?_eq_some_iff.1 h).1
    calc i * k + t < i * k + k := by omega
      _ = (i + 1) * k := by rw [Nat.add_mul]; omega
      _ ≤ xs.length * k := Nat.mul_le_mul_right _ this
  apply Array.ext'
  simp only [arr, Array.toList_setIfInBounds]
  rw [List.set_append_left _ _ hlt, flatMap_set hk h ht e]

/-! ### Addresses -/
theorem runIndex {T E n c b o k : Nat} {ik : IntKind} (i : Nat) (hT : P.underlying T = some (.slice E)) (hE : (P.info? E).map (·.size) = some k) (hi : i < n) :
    RunR P W base its (do pure (Next.value (← Instr.indexAt T (.slice (some ⟨b, o, none⟩) n c) (.int ik (i : Int))))) (.value (.pointer (some ⟨b, o + i * k, none⟩))) := by
  intro _ w _
  obtain ⟨inf, h1, h2⟩ := Option.map_eq_some_iff.1 hE
  have h0 : (i : Int) < n := by omega
  simp only [Instr.indexAt, asIntOf, pure_bind, Sem.run_bind, run_underlying hT, Result.andThen_ok, Sem.run_pure]
  rw [if_pos ⟨by omega, h0⟩]
  simp [sizeOf, typeInfo, h1, h2, Addr.add]
theorem runIndex0 {T E n c b k : Nat} {ik : IntKind} (i : Nat) (hT : P.underlying T = some (.slice E)) (hE : (P.info? E).map (·.size) = some k) (hi : i < n) :
    RunR P W base its (do pure (Next.value (← Instr.indexAt T (.slice (some ⟨b, 0, none⟩) n c) (.int ik (i : Int))))) (.value (.pointer (some ⟨b, i * k, none⟩))) := by
  have := runIndex (P := P) (W := W) (base := base) (its := its) (b := b) (o := 0) (c := c) (ik := ik) i hT hE hi
  rwa [Nat.zero_add] at this
/-- An array behind a pointer. -/
theorem runIndexA {T E n b o k : Nat} {ik : IntKind} (i : Nat) (hT : P.underlying T = some (.array n E)) (hE : (P.info? E).map (·.size) = some k) (hi : i < n) :
    RunR P W base its (do pure (Next.value (← Instr.indexAt T (.pointer (some ⟨b, o, none⟩)) (.int ik (i : Int))))) (.value (.pointer (some ⟨b, o + i * k, none⟩))) := by
  intro _ w _
  obtain ⟨inf, h1, h2⟩ := Option.map_eq_some_iff.1 hE
  have h0 : (i : Int) < n := by omega
  simp only [Instr.indexAt, asIntOf, pure_bind, Sem.run_bind, run_underlying hT, Result.andThen_ok, Sem.run_pure, Instr.sureAddr]
  rw [if_pos ⟨by omega, h0⟩]
  simp [sizeOf, typeInfo, h1, h2, Addr.add]

/-! ### Loads and stores at a place that is not a numeral -/
theorem cell_of {w : World} {b o : Nat} {c : Array Value} {T : TypeId} {fr : Nat × Nat} {v : Value} (h : w.heap[b]? = some (.cells c T fr)) (hv : c[o]? = some v) : w.cell? ⟨b, o, none⟩ = some v := by
  simp [World.cell?, h, hv]
theorem runLoadC {T b o : Nat} {c : Array Value} {T' : TypeId} {fr : Nat × Nat} {v : Value} (h : Nat × Nat) (hb : blkAt base its h = some (b, .cells c T' fr)) (hv : c[o]? = some v)
    (hT : (P.underlying T).map (fun d => match d with | .struct _ | .array _ _ => true | _ => false) = some false) :
    RunR P W base its (do pure (Next.value (← Instr.loadAt T (.pointer (some ⟨b, o, none⟩))))) (.value v) := by
  intro hbase w hs
  have hh := hs.at hbase hb
  obtain ⟨d, h1, h2⟩ := Option.map_eq_some_iff.1 hT
  have hc := cell_of hh hv
  simp only [Instr.loadAt, Instr.sureAddr, pure_bind, loadVar, isAgg, Sem.run_bind, run_underlying h1, Result.andThen_ok]
  cases d <;> simp_all [load, Sem.run]
theorem run_loadCellsFrom {P : Program} {w : World} {b o : Nat} {c : Array Value} {T : TypeId} {fr : Nat × Nat} (h : w.heap[b]? = some (.cells c T fr)) : ∀ (vs : List Value) (i : Nat) (acc : Array Value),
    (∀ t u, vs[t]? = some u → c[o + (i + t)]? = some u) → (loadCellsFrom ⟨b, o, none⟩ i vs.length acc).run P w = .ok (acc ++ vs.toArray) w
  | [], i, acc, _ => by simp [loadCellsFrom]
  | v :: vs, i, acc, hv => by
    have h0 : c[o + i]? = some v := by simpa using hv 0 v (by simp)
    have ih := run_loadCellsFrom (P := P) h vs (i + 1) (acc.push v) (fun t u ht => by have := hv (t + 1) u (by simpa using ht); rw [show o + (i + 1 + t) = o + (i + (t + 1)) from by omega]; exact this)
    have hadd : (⟨b, o, none⟩ : Addr).add i = ⟨b, o + i, none⟩ := by unfold Addr.add; split <;> simp_all
    simp only [List.length_cons, loadCellsFrom, hadd, load, Sem.run_bind, Sem.run, cell_of h h0, Result.andThen_ok, ih]
    congr 1
    apply Array.ext'; simp
theorem runLoadA {T b o : Nat} {c : Array Value} {T' : TypeId} {fr : Nat × Nat} (vs : List Value) (h : Nat × Nat) (hb : blkAt base its h = some (b, .cells c T' fr)) (hv : ∀ t u, vs[t]? = some u → c[o + t]? = some u)
    (hT : (P.underlying T).map (fun d => match d with | .struct _ | .array _ _ => true | _ => false) = some true) (hn : (P.info? T).map (·.size) = some vs.length) :
    RunR P W base its (do pure (Next.value (← Instr.loadAt T (.pointer (some ⟨b, o, none⟩))))) (.value (.agg vs.toArray)) := by
  intro hbase w hs
  have hh := hs.at hbase hb
  obtain ⟨d, h1, h2⟩ := Option.map_eq_some_iff.1 hT
  obtain ⟨inf, h3, h4⟩ := Option.map_eq_some_iff.1 hn
  have hr := run_loadCellsFrom (P := P) (o := o) hh vs 0 #[] (by simpa using hv)
  have hr' : (loadCells ⟨b, o, none⟩ vs.length).run P w = .ok vs.toArray w := by simpa [loadCells] using hr
  simp only [Instr.loadAt, Instr.sureAddr, pure_bind, loadVar, isAgg, Sem.run_bind, run_underlying h1, Result.andThen_ok]
  cases d <;> simp_all [sizeOf, typeInfo]
/-- One element, one of its cells. -/
theorem runLoadE {α : Type} {f : α → List Value} {k : Nat} (hk : ∀ x, (f x).length = k) {xs : List α} {rest : List Value} {T b : Nat} {T' : TypeId} {i : Nat} {x : α} {v : Value} (t : Nat) (h : Nat × Nat)
    (hb : blkAt base its h = some (b, .cells (arr f xs rest) T' (0, 0))) (hx : xs[i]? = some x) (ht : t < k) (hv : (f x)[t]? = some v)
    (hT : (P.underlying T).map (fun d => match d with | .struct _ | .array _ _ => true | _ => false) = some false) :
    RunR P W base its (do pure (Next.value (← Instr.loadAt T (.pointer (some ⟨b, i * k + t, none⟩))))) (.value v) :=
  runLoadC h hb (by rw [arr_get hk hx ht]; exact hv) hT
theorem runLoadS {α : Type} {f : α → List Value} {k : Nat} (hk : ∀ x, (f x).length = k) {xs : List α} {rest : List Value} {T b : Nat} {T' : TypeId} {i : Nat} {x : α} (h : Nat × Nat)
    (hb : blkAt base its h = some (b, .cells (arr f xs rest) T' (0, 0))) (hx : xs[i]? = some x)
    (hT : (P.underlying T).map (fun d => match d with | .struct _ | .array _ _ => true | _ => false) = some true) (hn : (P.info? T).map (·.size) = some k) :
    RunR P W base its (do pure (Next.value (← Instr.loadAt T (.pointer (some ⟨b, i * k, none⟩))))) (.value (.agg (f x).toArray)) := by
  refine runLoadA (f x) h hb (fun t u ht => ?_) hT (by rw [hn, hk])
  have hlt : t < k := by rw [← hk x]; exact (List.getElem?_eq_some_iff.1 ht).1
  rw [arr_get hk hx hlt]; exact ht
/-- A store of one cell. -/
theorem runStoreC {T b o i j : Nat} {c c' : Array Value} {T' : TypeId} {v : Value} (hb : (its[i]?).bind (·[j]?) = some (b, .cells c T' (0, 0))) (ho : o < c.size) (h1 : oneC v = true) (hc : c.setIfInBounds o v = c')
    (hT : (P.info? T).map (·.size) = some 1) :
    RunX P W base its (do Instr.storeAt T (.pointer (some ⟨b, o, none⟩)) v; pure Next.skip) (fun _ : Unit => .skip) (fun _ => setBlk its i j (b, .cells c' T' (0, 0))) (fun _ => True) := by
  intro hbase w hs
  have hh : w.heap[b]? = some (.cells c T' (0, 0)) := hs.at hbase (ij := (i + 1, j)) hb
  obtain ⟨inf, h3, h4⟩ := Option.map_eq_some_iff.1 hT
  subst hc
  refine ⟨(), w.setCell ⟨b, o, none⟩ v, trivial, ?_, ?_⟩
  · have hcl : v.cells = #[v] := by cases v <;> first | rfl | (simp [oneC] at h1)
    have hcell : w.cell? ⟨b, o, none⟩ = some c[o] := cell_of hh (by simp [ho])
    have hfz : w.frozen? ⟨b, o, none⟩ = false := by simp [World.frozen?, hh]
    simp only [Instr.storeAt, Instr.sureAddr, pure_bind, storeVar, sizeOf, typeInfo, Sem.run_bind, program, Sem.run, Result.andThen_ok, h3, Sem.run_pure, hcl, h4]
    simp only [storeCells, store, Addr.add]
    cases v <;> first | (simp [oneC] at h1; done) | simp [Sem.run, hcell, hfz]
  · refine hs.set hb ⟨rfl, rfl, rfl, by simp [World.setCell]⟩ ?_ ?_
    · have hb' := (Array.getElem?_eq_some_iff.1 hh).1
      simp only [World.setCell, Array.getElem?_modify, if_true, hh, Option.map_some]
      rfl
    · intro k' hk'; simp only [World.setCell, Array.getElem?_modify]; rw [if_neg (by omega)]
theorem runStoreE {α : Type} {f : α → List Value} {k : Nat} (hk : ∀ x, (f x).length = k) {xs : List α} {rest : List Value} {T b i j : Nat} {T' : TypeId} {n : Nat} {x : α} (y : α) {v : Value} (t : Nat)
    (hb : (its[i]?).bind (·[j]?) = some (b, .cells (arr f xs rest) T' (0, 0))) (hx : xs[n]? = some x) (ht : t < k) (hy : f y = (f x).set t v) (h1 : oneC v = true)
    (hT : (P.info? T).map (·.size) = some 1) :
    RunX P W base its (do Instr.storeAt T (.pointer (some ⟨b, n * k + t, none⟩)) v; pure Next.skip) (fun _ : Unit => .skip) (fun _ => setBlk its i j (b, .cells (arr f (xs.set n y) rest) T' (0, 0))) (fun _ => True) := by
  refine runStoreC hb ?_ h1 (arr_set hk hx ht hy) hT
  rw [arr_size hk]
  have := (List.getElem?_eq_some_iff.1 hx).1
  calc n * k + t < n * k + k := by omega
    _ = (n + 1) * k := by rw [Nat.add_mul]; omega
    _ ≤ xs.length * k := Nat.mul_le_mul_right _ this
    _ ≤ xs.length * k + rest.length := by omega

/-! ### Slices that own their array: 'append', 'make' -/
structure SD where
  a : Option Addr
  cap : Nat
  rest : List Value
def SD.blk {α : Type} (T : TypeId) (f : α → List Value) (d : SD) (xs : List α) : List Blk := match d.a with | none => [] | some p => [(p.block, .cells (arr f xs d.rest) T)]
def SD.ok (k : Nat) (d : SD) (n : Nat) : Prop := (d = ⟨none, 0, []⟩ ∧ n = 0) ∨ ∃ b c r, d = ⟨some ⟨b, 0, none⟩, c, r⟩ ∧ n ≤ c ∧ c * k = n * k + r.length
theorem SD.ok_nil (k : Nat) : SD.ok k ⟨none, 0, []⟩ 0 := .inl ⟨rfl, rfl⟩
/-- A slice that is not empty has an array. -/
theorem SD.ok.some {k : Nat} {d : SD} {n : Nat} (h : d.ok k n) (hn : 0 < n) : ∃ b c r, d = ⟨some ⟨b, 0, none⟩, c, r⟩ ∧ n ≤ c ∧ c * k = n * k + r.length := by
  rcases h with ⟨_, h⟩ | h
  · omega
  · exact h

theorem SatI.setNew {w : World} (h : SatI W w its) {i : Nat} (hi : i < its.length) (o : Obj) : SatI W { w with heap := w.heap.push o } (its.set i [(w.heap.size, o)]) := by
  have h1 : SatI W { w with heap := w.heap.push o } (its ++ [[(w.heap.size, o)]]) := by
    unfold SatI; simp only [List.flatten_append, List.flatten_cons, List.flatten_nil, List.append_nil]; exact Sat.new h o
  have h2 := SatI.pick h1 ((List.range i) ++ (its.length :: (List.range' (i + 1) (its.length - (i + 1))))) (its' := its.set i [(w.heap.size, o)]) ?_ ?_
  · exact h2
  · have key : ∀ l : List Nat, l.Nodup → nodupB l = true := by
      intro l
      induction l with
      | nil => intro _; rfl
      | cons x l ih =>
        intro hl
        rw [List.nodup_cons] at hl
        simp only [nodupB, Bool.and_eq_true, Bool.not_eq_true', List.any_eq_false]
        refine ⟨fun y hy hb => hl.1 ?_, ih hl.2⟩
        rw [Nat.eq_of_beq_eq_true hb]; exact hy
    apply key
    rw [List.nodup_append]
    refine ⟨List.nodup_range, ?_, ?_⟩
    · rw [List.nodup_cons]
      refine ⟨fun hm => ?_, List.nodup_range'⟩
      rw [List.mem_range'] at hm
      obtain ⟨j, hj, e⟩ := hm
      omega
    · intro a ha b hb e
      rw [List.mem_range] at ha
      rcases List.mem_cons.1 hb with rfl | hb
      · omega
      · rw [List.mem_range'] at hb
        obtain ⟨j, hj, e2⟩ := hb
        omega
  · have e1 : its.set i [(w.heap.size, o)] = its.take i ++ [(w.heap.size, o)] :: its.drop (i + 1) := by
      rw [List.set_eq_take_append_cons_drop, if_pos hi]
    rw [e1]
    have g1 : ∀ (l : Items), Sx.pick (List.range i) (its ++ l) = Option.some (its.take i) := by
      intro l
      have : ∀ j, j ≤ i → Sx.pick (List.range j) (its ++ l) = Option.some (its.take j) := by
        intro j
        induction j with
        | zero => intro _; simp [Sx.pick]
        | succ j ih =>
          intro hj
          rw [List.range_succ]
          have hb : Sx.pick [j] (its ++ l) = Option.some [its[j]'(by omega)] := by
            simp [Sx.pick, List.getElem?_append_left (show j < its.length by omega), List.getElem?_eq_getElem (show j < its.length by omega)]
          rw [pick_append (ih (by omega)) hb]
          rw [List.take_succ_eq_append_getElem (show j < its.length by omega)]
      exact this i (Nat.le_refl _)
    have g2 : Sx.pick (List.range' (i + 1) (its.length - (i + 1))) (its ++ [[(w.heap.size, o)]]) = Option.some (its.drop (i + 1)) := by
      have : ∀ m j, j + m = its.length → Sx.pick (List.range' j m) (its ++ [[(w.heap.size, o)]]) = Option.some (its.drop j) := by
        intro m
        induction m with
        | zero => intro j hj; simp [Sx.pick, List.drop_of_length_le (show its.length ≤ j by omega)]
        | succ m ih =>
          intro j hj
          rw [List.range'_succ, List.drop_eq_getElem_cons (show j < its.length by omega)]
          have hb : Sx.pick [j] (its ++ [[(w.heap.size, o)]]) = Option.some [its[j]'(by omega)] := by
            simp [Sx.pick, List.getElem?_append_left (show j < its.length by omega), List.getElem?_eq_getElem (show j < its.length by omega)]
          exact pick_append hb (ih (j + 1) (by omega))
      exact this _ _ (by omega)
    refine pick_append (g1 _) ?_
    have hb : Sx.pick [its.length] (its ++ [[(w.heap.size, o)]]) = Option.some [[(w.heap.size, o)]] := by simp [Sx.pick]
    exact pick_append hb g2

theorem setRow_set {w : World} (h : SatI W w its) {i b : Nat} {c : Array Value} {T : TypeId} (hi : its[i]? = some [(b, .cells c T (0, 0))]) (c' : Array Value) :
    SatI W (w.setRow b c') (its.set i [(b, .cells c' T (0, 0))]) := by
  have hb : (its[i]?).bind (·[0]?) = some (b, .cells c T (0, 0)) := by rw [hi]; rfl
  have hh : w.heap[b]? = some (.cells c T (0, 0)) := by
    obtain ⟨l, h1, h2⟩ := Option.bind_eq_some_iff.1 hb
    exact h.has _ (List.mem_flatten.2 ⟨l, List.mem_of_getElem? h1, List.mem_of_getElem? h2⟩)
  have h1 := h.set (w' := w.setRow b c') (o' := .cells c' T (0, 0)) hb ⟨rfl, rfl, rfl, by simp [World.setRow]⟩ (setRow_heap w b c c' T (0, 0) hh) (fun k hk => setRow_other w b k _ hk)
  simpa [setBlk, hi] using h1

/-- 'append(xs, ys...)': xs its own (or nil); ys somewhere in the memory, of no spare cells. -/
theorem runAppend {α : Type} {f : α → List Value} {k : Nat} (hk : ∀ x, (f x).length = k) {t ty e by_ : Nat} {z : List Value} (d : SD) (xs ys : List α) (i : Nat) (h2 : Nat × Nat) {b2 o2 c2 m : Nat} {cs : Array Value} {T2 : TypeId} {fr2 : Nat × Nat}
    (ht : P.underlying t = some (.slice e)) (he : (P.info? e).bind (fun i => i.zero.map fun z => (i.size, i.bytes, z.cells.toList)) = some (k, by_, z)) (hz : z.length = k) (hk0 : Nat.blt 0 k = true)
    (hi : its[i]? = some (d.blk e f xs)) (hd : d.ok k xs.length) (hb2 : blkAt base its h2 = some (b2, .cells cs T2 fr2)) (hs : ∀ j u, (ys.flatMap f)[j]? = some u → cs[o2 + j]? = some u)
    (h1 : ∀ y ∈ ys, ∀ u ∈ f y, oneC u = true) (hm : ys.length = m) (hsz : (xs.length + m) * by_ ≤ 140737488355328) (h63 : xs.length + m ≤ 9223372036854775807) :
    RunX P W base its (do pure (Next.value (← Builtin.append_ #[t, t] ty #[.slice d.a xs.length d.cap, .slice (some ⟨b2, o2, none⟩) m c2]))) (fun d' : SD => .value (.slice d'.a (xs.length + m) d'.cap))
      (fun d' => its.set i (d'.blk e f (xs ++ ys))) (fun d' => d'.ok k (xs ++ ys).length) := by
  intro hbase w hsat
  subst hm
  obtain ⟨inf, g1, g2⟩ := Option.bind_eq_some_iff.1 he
  obtain ⟨zv, g3, g4⟩ := Option.map_eq_some_iff.1 g2
  simp only [Prod.mk.injEq] at g4
  obtain ⟨g5, g6, g7⟩ := g4
  have hil : i < its.length := (List.getElem?_eq_some_iff.1 hi).1
  have hh2 := hsat.at hbase hb2
  have hnl : (ys.flatMap f).length = ys.length * inf.size := by rw [flatMap_len hk, g5]
  have hxl : (xs.flatMap f).length = xs.length * inf.size := by rw [flatMap_len hk, g5]
  have hnews : ∀ (w' : World), w'.heap[b2]? = w.heap[b2]? → ∀ j u, (ys.flatMap f)[j]? = some u → w'.cell? ((⟨b2, o2, none⟩ : Addr).add j) = some u := by
    intro w' hw' j u hj
    have hadd : (⟨b2, o2, none⟩ : Addr).add j = ⟨b2, o2 + j, none⟩ := by unfold Addr.add; split <;> simp_all
    rw [hadd]; exact cell_of (hw'.trans hh2) (hs j u hj)
  have hone : ∀ u ∈ ys.flatMap f, u.oneCell' = true := by
    intro u hu
    obtain ⟨y, hy, hu'⟩ := List.mem_flatMap.1 hu
    have := h1 y hy u hu'
    cases u <;> first | rfl | (simp [oneC] at this)
  have hk1 : 0 < k := by simpa [Nat.blt_eq] using hk0
  have hzl : zv.cells.size = k := by rw [← hz, ← g7]; simp
  have hzc : ∀ j, (Builtin.zeroCells zv.cells j).toList.length = j * k := by intro j; rw [Array.length_toList, size_zeroCells, hzl]
  have happ : ∀ (r : List Value), arr f (xs ++ ys) r = (xs.flatMap f ++ ys.flatMap f ++ r).toArray := by intro r; simp [arr]
  have hlen : (xs ++ ys).length = xs.length + ys.length := List.length_append
  rcases hd with ⟨rfl, hx0⟩ | ⟨b, c, r, rfl, hc, hr⟩
  · have hx : xs = [] := List.eq_nil_of_length_eq_zero hx0
    subst hx
    simp only [List.length_nil, Nat.zero_add, List.nil_append] at *
    by_cases hy : ys = []
    · subst hy
      refine ⟨⟨none, 0, []⟩, w, SD.ok_nil k, ?_, ?_⟩
      · simp [Builtin.append_, run_underlying ht, sizeOf, typeInfo, g1, Builtin.lenOf, Builtin.firstCells, loadCells, loadCellsFrom]
      · have : its.set i (SD.blk e f ⟨none, 0, []⟩ ([] : List α)) = its := by
          refine List.ext_getElem? (fun j => ?_)
          rw [List.getElem?_set]
          by_cases hj : i = j
          · subst hj; rw [if_pos rfl, if_pos hil, hi]
          · rw [if_neg hj]
        rw [this]; exact hsat
    · have hpos : 0 < ys.length := by cases ys with | nil => exact absurd rfl hy | cons _ _ => simp
      have hrun := run_append_nil (P := P) w t ty e inf zv ht g1 g3 ⟨b2, o2, none⟩ ys.length c2 (ys.flatMap f) hnl (hnews w rfl) hpos (by omega) (by rw [g6]; omega)
      have hge := grownCap_ge w ys.length 0 e
      refine ⟨⟨some ⟨w.heap.size, 0, none⟩, grownCap w ys.length 0 e, (Builtin.zeroCells zv.cells (grownCap w ys.length 0 e - ys.length)).toList⟩,
        w.drew.alloc (.cells ((ys.flatMap f).toArray ++ Builtin.zeroCells zv.cells (grownCap w ys.length 0 e - ys.length)) e), .inr ⟨_, _, _, rfl, hge, ?_⟩, ?_, ?_⟩
      · rw [hzc, ← Nat.add_mul]; congr 1; omega
      · simp only [Sem.run_bind, hrun, Result.andThen_ok, Sem.run_pure]
      · have h3 := SatI.setNew (w := w.drew) (Sat.drawn hsat (w.drawn + 1)) hil (.cells ((ys.flatMap f).toArray ++ Builtin.zeroCells zv.cells (grownCap w ys.length 0 e - ys.length)) e)
        have e2 : SD.blk e f ⟨some ⟨w.heap.size, 0, none⟩, grownCap w ys.length 0 e, (Builtin.zeroCells zv.cells (grownCap w ys.length 0 e - ys.length)).toList⟩ ys =
            [(w.heap.size, .cells ((ys.flatMap f).toArray ++ Builtin.zeroCells zv.cells (grownCap w ys.length 0 e - ys.length)) e)] := by
          simp only [SD.blk, arr]
          congr 3
          apply Array.ext'; simp
        simp only [e2]; exact h3
  · have hi' : its[i]? = some [(b, .cells (arr f xs r) e (0, 0))] := hi
    have hh : w.heap[b]? = some (.cells (arr f xs r) e (0, 0)) := hsat.at hbase (ij := (i + 1, 0)) (by simp only [blkAt, hi']; rfl)
    have hcs : (arr f xs r).size = c * k := by rw [arr_size hk, hr]
    by_cases hroom : xs.length + ys.length ≤ c
    · have hfit : xs.length * inf.size + (ys.flatMap f).length ≤ (arr f xs r).size := by
        rw [hnl, hcs, g5, ← Nat.add_mul]; exact Nat.mul_le_mul_right _ hroom
      have hrun := run_append_room (P := P) w t ty e inf ht g1 b xs.length c (arr f xs r) hh ⟨b2, o2, none⟩ ys.length c2 (ys.flatMap f) hnl (hnews w rfl) hone hroom hfit
      have hnew : ((arr f xs r).toList.take (xs.length * inf.size) ++ ys.flatMap f ++ (arr f xs r).toList.drop (xs.length * inf.size + (ys.flatMap f).length)).toArray = arr f (xs ++ ys) (r.drop (ys.flatMap f).length) := by
        rw [happ]
        congr 1
        simp only [arr]
        have e1 : (xs.flatMap f ++ r).take (xs.length * inf.size) = xs.flatMap f := by rw [← hxl]; exact List.take_left
        have e2 : (xs.flatMap f ++ r).drop (xs.length * inf.size + (ys.flatMap f).length) = r.drop (ys.flatMap f).length := by
          rw [← hxl, List.drop_append, List.drop_of_length_le (by omega), List.nil_append]
          congr 1; omega
        rw [e1, e2]
      rw [hnew] at hrun
      refine ⟨⟨some ⟨b, 0, none⟩, c, r.drop (ys.flatMap f).length⟩, w.setRow b (arr f (xs ++ ys) (r.drop (ys.flatMap f).length)), .inr ⟨_, _, _, rfl, by rw [hlen]; exact hroom, ?_⟩, ?_, setRow_set hsat hi' _⟩
      · rw [List.length_drop, hlen, Nat.add_mul, hnl, g5]
        have : (xs.length + ys.length) * k ≤ c * k := Nat.mul_le_mul_right _ hroom
        rw [Nat.add_mul] at this
        omega
      · simp only [Sem.run_bind, hrun, Result.andThen_ok, Sem.run_pure]
    · have holds : ∀ j u, (xs.flatMap f)[j]? = some u → w.cell? ((⟨b, 0, none⟩ : Addr).add j) = some u := by
        intro j u hj
        have hadd : (⟨b, 0, none⟩ : Addr).add j = ⟨b, j, none⟩ := by unfold Addr.add; split <;> simp_all
        rw [hadd]
        refine cell_of hh ?_
        simp only [arr, List.getElem?_toArray]
        rw [List.getElem?_append_left (List.getElem?_eq_some_iff.1 hj).1]; exact hj
      have hrun := run_append_grow (P := P) w t ty e inf zv ht g1 g3 ⟨b, 0, none⟩ xs.length c (xs.flatMap f) hxl holds ⟨b2, o2, none⟩ ys.length c2 (ys.flatMap f) hnl (hnews w rfl) (by omega) (by omega) (growslice_fits (by omega) (by rw [g6]; exact hsz))
      have hge := grownCap_ge w (xs.length + ys.length) c e
      refine ⟨⟨some ⟨w.heap.size, 0, none⟩, grownCap w (xs.length + ys.length) c e, (Builtin.zeroCells zv.cells (grownCap w (xs.length + ys.length) c e - (xs.length + ys.length))).toList⟩,
        w.drew.alloc (.cells ((xs.flatMap f).toArray ++ (ys.flatMap f).toArray ++ Builtin.zeroCells zv.cells (grownCap w (xs.length + ys.length) c e - (xs.length + ys.length))) e), .inr ⟨_, _, _, rfl, by rw [hlen]; exact hge, ?_⟩, ?_, ?_⟩
      · rw [hzc, hlen, ← Nat.add_mul]; congr 1; omega
      · simp only [Sem.run_bind, hrun, Result.andThen_ok, Sem.run_pure]
      · have h3 := SatI.setNew (w := w.drew) (Sat.drawn hsat (w.drawn + 1)) hil (.cells ((xs.flatMap f).toArray ++ (ys.flatMap f).toArray ++ Builtin.zeroCells zv.cells (grownCap w (xs.length + ys.length) c e - (xs.length + ys.length))) e)
        have e2 : SD.blk e f ⟨some ⟨w.heap.size, 0, none⟩, grownCap w (xs.length + ys.length) c e, (Builtin.zeroCells zv.cells (grownCap w (xs.length + ys.length) c e - (xs.length + ys.length))).toList⟩ (xs ++ ys) =
            [(w.heap.size, .cells ((xs.flatMap f).toArray ++ (ys.flatMap f).toArray ++ Builtin.zeroCells zv.cells (grownCap w (xs.length + ys.length) c e - (xs.length + ys.length))) e)] := by
          simp only [SD.blk, happ]
          congr 3
          apply Array.ext'; simp
        simp only [e2]; exact h3

/-! ### Maps -/
def mkM {κ : Type} (enc : κ → Value) (l : List (κ × Value × Nat)) : Array MapEntry := (l.map fun x => (⟨enc x.1, x.2.1, x.2.2⟩ : MapEntry)).toArray
def lkM {κ : Type} [DecidableEq κ] : List (κ × Value × Nat) → κ → Option Value
  | [], _ => none
  | x :: l, k => if k = x.1 then some x.2.1 else lkM l k
def inM {κ : Type} [DecidableEq κ] : List (κ × Value × Nat) → κ → Value → Nat → List (κ × Value × Nat)
  | [], k, v, c => [(k, v, c)]
  | x :: l, k, v, c => if k = x.1 then (k, v, x.2.2) :: l else x :: inM l k v c
def erM {κ : Type} [DecidableEq κ] : List (κ × Value × Nat) → κ → List (κ × Value × Nat)
  | [], _ => []
  | x :: l, k => if k = x.1 then l else x :: erM l k
structure Key (P : Program) (K : TypeId) {κ : Type} [DecidableEq κ] (enc : κ → Value) : Prop where
  same : ∃ D, P.underlying K = some D ∧ ∀ a b, Instr.sameNow D (enc a) (enc b) = some (decide (a = b))
  check : ∀ (e : Bool) a w, (Instr.checkKey e 10000 K (enc a)).run P w = .ok () w
  bits : ∀ a, Instr.sameBits 10000 (enc a) (enc a) = true
theorem ba_beq (a b : ByteArray) : (a == b) = decide (a = b) := by
  rw [Bool.eq_iff_iff, decide_eq_true_iff]
  obtain ⟨a⟩ := a; obtain ⟨b⟩ := b
  show (a == b) = true ↔ _
  simp
theorem check_int {K : TypeId} {k : IntKind} (h : P.underlying K = some (.int k)) (e : Bool) (n : Nat) (a : Int) (w : World) : (Instr.checkKey e (n + 1) K (.int k a)).run P w = .ok () w := by
  simp [Instr.checkKey, run_underlying h]
theorem check_str {K : TypeId} (h : P.underlying K = some .string) (e : Bool) (n : Nat) (a : ByteArray) (w : World) : (Instr.checkKey e (n + 1) K (.string a)).run P w = .ok () w := by
  simp [Instr.checkKey, run_underlying h]
theorem bits_int (n : Nat) (k : IntKind) (a : Int) : Instr.sameBits n (.int k a) (.int k a) = true := by cases n <;> simp [Instr.sameBits]
theorem bits_str (n : Nat) (a : ByteArray) : Instr.sameBits n (.string a) (.string a) = true := by cases n <;> simp [Instr.sameBits, ba_beq]
theorem keyInt {K : TypeId} {k : IntKind} (h : P.underlying K = some (.int k)) : Key P K (Value.int k) :=
  ⟨⟨_, h, fun a b => by
      simp only [Instr.sameNow, if_true]
      congr 1⟩,
   fun e a w => check_int h e 9999 a w, fun a => bits_int 10000 k a⟩
theorem keyStr {K : TypeId} (h : P.underlying K = some .string) : Key P K Value.string :=
  ⟨⟨_, h, fun a b => by simp only [Instr.sameNow, ba_beq]⟩,
   fun e a w => check_str h e 9999 a w, fun a => bits_str 10000 a⟩
section
variable {κ : Type} [DecidableEq κ] {enc : κ → Value}
def fiM : List (κ × Value × Nat) → κ → Nat → Option (Nat × Value)
  | [], _, _ => none
  | x :: l, k, i => if k = x.1 then some (i, x.2.1) else fiM l k (i + 1)
theorem findNow_M {D : TypeDesc} (h : ∀ a b, Instr.sameNow D (enc a) (enc b) = some (decide (a = b))) (k : κ) : ∀ (l : List (κ × Value × Nat)) (i : Nat),
    Instr.findNow D (enc k) (mkM enc l).toList i = some (fiM l k i)
  | [], i => by simp [mkM, Instr.findNow, fiM]
  | x :: l, i => by
    have ih := findNow_M h k l (i + 1)
    simp only [mkM] at ih
    simp only [mkM, List.map_cons, Instr.findNow, h, fiM]
    by_cases hk : k = x.1
    · simp [hk]
    · simp only [hk, decide_false, if_false]; exact ih
theorem fiM_snd (k : κ) : ∀ (l : List (κ × Value × Nat)) (i : Nat), (fiM l k i).map (·.2) = lkM l k
  | [], i => rfl
  | x :: l, i => by
    simp only [fiM, lkM]
    split
    · rfl
    · exact fiM_snd k l (i + 1)
theorem run_findKey {K : TypeId} (hK : Key P K enc) (l : List (κ × Value × Nat)) (k : κ) (w : World) : (Instr.findKey K (enc k) (mkM enc l).toList).run P w = .ok (fiM l k 0) w := by
  obtain ⟨D, h1, h2⟩ := hK.same
  simp [Instr.findKey, run_underlying h1, findNow_M h2]
theorem runLook {T K E b clk : Nat} {l : List (κ × Value × Nat)} (hT : P.underlying T = some (.map K E)) (hK : Key P K enc) (z : Value) (hz : (P.info? E).bind (·.zero) = some z) (h : Nat × Nat) (k : κ)
    (hb : blkAt base its h = some (b, .map (mkM enc l) clk)) :
    RunR P W base its (do pure (Next.value (← Instr.lookup T (.map (some b)) (enc k) false))) (.value ((lkM l k).getD z)) := by
  intro hbase w hs
  have hh := hs.at hbase hb
  obtain ⟨inf, g1, g2⟩ := Option.bind_eq_some_iff.1 hz
  have hf := fiM_snd k l 0
  simp only [Instr.lookup, Sem.run_bind, run_underlying hT, Result.andThen_ok, getObj, Sem.run, hh, hK.check, run_findKey hK, Sem.run_pure]
  cases hx : fiM l k 0 with
  | none => rw [hx] at hf; simp at hf; simp [zeroValue, typeInfo, g1, g2, ← hf]
  | some p => rw [hx] at hf; simp at hf; simp [← hf]
theorem runLookOk {T K E b clk : Nat} {l : List (κ × Value × Nat)} (hT : P.underlying T = some (.map K E)) (hK : Key P K enc) (z : Value) (hz : (P.info? E).bind (·.zero) = some z) (h : Nat × Nat) (k : κ)
    (hb : blkAt base its h = some (b, .map (mkM enc l) clk)) :
    RunR P W base its (do pure (Next.value (← Instr.lookup T (.map (some b)) (enc k) true))) (.value (.tuple #[(lkM l k).getD z, .bool (lkM l k).isSome])) := by
  intro hbase w hs
  have hh := hs.at hbase hb
  obtain ⟨inf, g1, g2⟩ := Option.bind_eq_some_iff.1 hz
  have hf := fiM_snd k l 0
  simp only [Instr.lookup, Sem.run_bind, run_underlying hT, Result.andThen_ok, getObj, Sem.run, hh, hK.check, run_findKey hK, Sem.run_pure]
  cases hx : fiM l k 0 with
  | none => rw [hx] at hf; simp at hf; simp [zeroValue, typeInfo, g1, g2, ← hf]
  | some p => rw [hx] at hf; simp at hf; simp [← hf]
theorem fiM_ge (k : κ) : ∀ (l : List (κ × Value × Nat)) (i : Nat) (p : Nat × Value), fiM l k i = some p → i ≤ p.1 ∧ p.1 - i < l.length ∧
    (∃ x, l[p.1 - i]? = some x ∧ x.1 = k) ∧ ∀ v c, inM l k v c = l.modify (p.1 - i) (fun x => (k, v, x.2.2))
  | [], i, p, h => by simp [fiM] at h
  | x :: l, i, p, h => by
    simp only [fiM] at h
    split at h
    · rename_i hk
      simp only [Option.some.injEq] at h; subst h
      refine ⟨Nat.le_refl _, by simp, ⟨x, by simp, hk.symm⟩, fun v c => ?_⟩
      simp [inM, hk]
    · rename_i hk
      obtain ⟨h1, h2, ⟨y, h3, h4⟩, h5⟩ := fiM_ge k l (i + 1) p h
      have e : p.1 - i = (p.1 - (i + 1)) + 1 := by omega
      refine ⟨by omega, by simp; omega, ⟨y, by rw [e]; simpa using h3, h4⟩, fun v c => ?_⟩
      rw [e]; simp [inM, hk, h5 v c]
theorem inM_none (k : κ) : ∀ (l : List (κ × Value × Nat)) (i : Nat), fiM l k i = none → ∀ v c, inM l k v c = l ++ [(k, v, c)]
  | [], i, h, v, c => rfl
  | x :: l, i, h, v, c => by
    simp only [fiM] at h
    split at h
    · cases h
    · rename_i hk; simp [inM, hk, inM_none k l (i + 1) h v c]
theorem runUpd {T K E b clk : Nat} {l : List (κ × Value × Nat)} (hT : P.underlying T = some (.map K E)) (hK : Key P K enc) (i j : Nat) (k : κ) (v : Value)
    (hb : (its[i]?).bind (·[j]?) = some (b, .map (mkM enc l) clk)) :
    RunX P W base its (do Instr.mapUpdate T (.map (some b)) (enc k) v; pure Next.skip) (fun _ : Unit => .skip)
      (fun _ => setBlk its i j (b, .map (mkM enc (inM l k v clk)) (bif (lkM l k).isSome then clk else clk + 1))) (fun _ => True) := by
  intro hbase w hs
  have hh : w.heap[b]? = some (.map (mkM enc l) clk) := hs.at hbase (ij := (i + 1, j)) hb
  have hlt := (Array.getElem?_eq_some_iff.1 hh).1
  have hf := fiM_snd k l 0
  have fin : ∀ o', SatI W { w with heap := w.heap.setIfInBounds b o' } (setBlk its i j (b, o')) := fun o' => by
    refine hs.set hb ⟨rfl, rfl, rfl, by simp⟩ ?_ ?_
    · simp [hlt]
    · intro k' hk'; simp only []; rw [Array.getElem?_setIfInBounds_ne (by omega)]
  cases hx : fiM l k 0 with
  | none =>
    rw [hx] at hf; simp at hf
    refine ⟨(), _, trivial, ?_, fin _⟩
    simp only [Instr.mapUpdate, Sem.run_bind, run_underlying hT, Result.andThen_ok, getObj, Sem.run, hh, hK.check, run_findKey hK, hx, setObj, Sem.run_pure, ← hf, Option.isSome_none, cond_false]
    congr 4
    rw [inM_none k l 0 hx]; simp [mkM]
  | some p =>
    rw [hx] at hf; simp at hf
    obtain ⟨_, h2, ⟨x, h3, h4⟩, h5⟩ := fiM_ge k l 0 p hx
    simp only [Nat.sub_zero] at h2 h3 h5
    refine ⟨(), _, trivial, ?_, fin _⟩
    have hkey : ((mkM enc l)[p.1]?.map (·.key)).getD (enc k) = enc k := by
      simp only [mkM, List.getElem?_toArray, List.getElem?_map, h3, Option.map_some, Option.getD_some, h4]
    simp only [Instr.mapUpdate, Sem.run_bind, run_underlying hT, Result.andThen_ok, getObj, Sem.run, hh, hK.check, run_findKey hK, hx, setObj, Sem.run_pure, ← hf, Option.isSome_some, cond_true, hkey,
      Instr.keyThatStays, hK.bits, if_true]
    congr 4
    rw [h5]
    apply Array.ext'
    simp only [mkM, Array.toList_modify]
    apply List.ext_getElem?
    intro q
    simp only [List.getElem?_modify, List.getElem?_map]
    by_cases hq : p.1 = q
    · subst hq; simp [h3]
    · simp [hq]
    
end

/-! ### What lay in the memory before: slices of the arguments -/
def BS {α : Type} (W : World) (f : α → List Value) (a : Option Addr) (xs : List α) : Prop :=
  xs = [] ∨ ∃ b o, a = some ⟨b, o, none⟩ ∧ ∀ j u, (xs.flatMap f)[j]? = some u → W.cell? ⟨b, o + j, none⟩ = some u
theorem BS.some {α : Type} {f : α → List Value} {a : Option Addr} {xs : List α} (h : BS W f a xs) (hn : 0 < xs.length) : ∃ b o, a = some ⟨b, o, none⟩ ∧ ∀ j u, (xs.flatMap f)[j]? = some u → W.cell? ⟨b, o + j, none⟩ = some u := by
  rcases h with h | h
  · rw [h] at hn; simp at hn
  · exact h
theorem Sat.cellB {w : World} {l : List Blk} (h : Sat W w l) {p : Addr} {v : Value} (hp : W.cell? p = some v) : w.cell? p = some v := by
  have hlt := World.block_lt_of_cell? W p hp
  exact (h.below.cell hlt).trans hp
theorem runLoadB {T : TypeId} {p : Addr} {v : Value} (hv : W.cell? p = some v)
    (hT : (P.underlying T).map (fun d => match d with | .struct _ | .array _ _ => true | _ => false) = some false) :
    RunR P W base its (do pure (Next.value (← Instr.loadAt T (.pointer (some p))))) (.value v) := by
  intro hbase w hs
  obtain ⟨d, h1, h2⟩ := Option.map_eq_some_iff.1 hT
  have hc := Sat.cellB hs hv
  simp only [Instr.loadAt, Instr.sureAddr, pure_bind, loadVar, isAgg, Sem.run_bind, run_underlying h1, Result.andThen_ok]
  cases d <;> simp_all [load, Sem.run]
theorem run_loadCellsB {P : Program} {w : World} {b o : Nat} : ∀ (vs : List Value) (i : Nat) (acc : Array Value),
    (∀ t u, vs[t]? = some u → w.cell? ⟨b, o + (i + t), none⟩ = some u) → (loadCellsFrom ⟨b, o, none⟩ i vs.length acc).run P w = .ok (acc ++ vs.toArray) w
  | [], i, acc, _ => by simp [loadCellsFrom]
  | v :: vs, i, acc, hv => by
    have h0 : w.cell? ⟨b, o + i, none⟩ = some v := by simpa using hv 0 v (by simp)
    have ih := run_loadCellsB (P := P) (w := w) (b := b) (o := o) vs (i + 1) (acc.push v) (fun t u ht => by have := hv (t + 1) u (by simpa using ht); rw [show o + (i + 1 + t) = o + (i + (t + 1)) from by omega]; exact this)
    have hadd : (⟨b, o, none⟩ : Addr).add i = ⟨b, o + i, none⟩ := by unfold Addr.add; split <;> simp_all
    simp only [List.length_cons, loadCellsFrom, hadd, load, Sem.run_bind, Sem.run, h0, Result.andThen_ok, ih]
    congr 1
    apply Array.ext'; simp
/-- An element of a slice of the arguments, whole. -/
theorem runLoadBS {α : Type} {f : α → List Value} {k : Nat} (hk : ∀ x, (f x).length = k) {xs : List α} {T b o i : Nat} {x : α} (hB : ∀ j u, (xs.flatMap f)[j]? = some u → W.cell? ⟨b, o + j, none⟩ = some u) (hx : xs[i]? = some x)
    (hT : (P.underlying T).map (fun d => match d with | .struct _ | .array _ _ => true | _ => false) = some true) (hn : (P.info? T).map (·.size) = some k) :
    RunR P W base its (do pure (Next.value (← Instr.loadAt T (.pointer (some ⟨b, o + i * k, none⟩))))) (.value (.agg (f x).toArray)) := by
  intro hbase w hs
  obtain ⟨d, h1, h2⟩ := Option.map_eq_some_iff.1 hT
  obtain ⟨inf, h3, h4⟩ := Option.map_eq_some_iff.1 hn
  have hr := run_loadCellsB (P := P) (w := w) (b := b) (o := o + i * k) (f x) 0 #[] (fun t u ht => by
    have hlt : t < k := by rw [← hk x]; exact (List.getElem?_eq_some_iff.1 ht).1
    have := hB (i * k + t) u (by rw [flatMap_get hk hx hlt]; exact ht)
    rw [Nat.zero_add, show o + i * k + t = o + (i * k + t) from by omega]
    exact Sat.cellB hs this)
  have hr' : (loadCells ⟨b, o + i * k, none⟩ k).run P w = .ok (f x).toArray w := by rw [hk] at hr; simpa [loadCells] using hr
  simp only [Instr.loadAt, Instr.sureAddr, pure_bind, loadVar, isAgg, Sem.run_bind, run_underlying h1, Result.andThen_ok]
  cases d <;> simp_all [sizeOf, typeInfo]
theorem runLoadBE {α : Type} {f : α → List Value} {k : Nat} (hk : ∀ x, (f x).length = k) {xs : List α} {T b o i : Nat} {x : α} {v : Value} (t : Nat) (hB : ∀ j u, (xs.flatMap f)[j]? = some u → W.cell? ⟨b, o + j, none⟩ = some u) (hx : xs[i]? = some x)
    (ht : t < k) (hv : (f x)[t]? = some v) (hT : (P.underlying T).map (fun d => match d with | .struct _ | .array _ _ => true | _ => false) = some false) :
    RunR P W base its (do pure (Next.value (← Instr.loadAt T (.pointer (some ⟨b, o + i * k + t, none⟩))))) (.value v) := by
  refine runLoadB ?_ hT
  rw [show o + i * k + t = o + (i * k + t) from by omega]
  exact hB _ _ (by rw [flatMap_get hk hx ht]; exact hv)

theorem runAppendN {α : Type} {f : α → List Value} {k : Nat} (hk : ∀ x, (f x).length = k) {t ty e by_ : Nat} {z : List Value} (d : SD) (xs ys : List α) (n : Nat) (i : Nat) (h2 : Nat × Nat) {b2 o2 c2 m : Nat} {cs : Array Value} {T2 : TypeId} {fr2 : Nat × Nat}
    (ht : P.underlying t = some (.slice e)) (he : (P.info? e).bind (fun i => i.zero.map fun z => (i.size, i.bytes, z.cells.toList)) = some (k, by_, z)) (hz : z.length = k) (hk0 : Nat.blt 0 k = true)
    (hi : its[i]? = some (d.blk e f xs)) (hn : xs.length = n) (hd : d.ok k n) (hb2 : blkAt base its h2 = some (b2, .cells cs T2 fr2)) (hs : ∀ j u, (ys.flatMap f)[j]? = some u → cs[o2 + j]? = some u)
    (h1 : ∀ y ∈ ys, ∀ u ∈ f y, oneC u = true) (hm : ys.length = m) (hsz : (n + m) * by_ ≤ 140737488355328) (h63 : n + m ≤ 9223372036854775807) :
    RunX P W base its (do pure (Next.value (← Builtin.append_ #[t, t] ty #[.slice d.a n d.cap, .slice (some ⟨b2, o2, none⟩) m c2]))) (fun d' : SD => .value (.slice d'.a (n + m) d'.cap))
      (fun d' => its.set i (d'.blk e f (xs ++ ys))) (fun d' => d'.ok k (n + m)) := by
  subst hn
  intro hb w hs'
  obtain ⟨r, w', h3, h4, h5⟩ := runAppend (P := P) (W := W) (base := base) (its := its) hk (ty := ty) (o2 := o2) (c2 := c2) d xs ys i h2 ht he hz hk0 hi hd hb2 hs h1 hm hsz h63 hb w hs'
  exact ⟨r, w', by rw [List.length_append, hm] at h3; exact h3, h4, h5⟩
/-- One element, laid by 'buildSlice'. -/
theorem runAppend1 {α : Type} {f : α → List Value} {k : Nat} (hk : ∀ x, (f x).length = k) {t ty e by_ : Nat} {z : List Value} (d : SD) (xs : List α) (y : α) (n : Nat) (i j : Nat) {b2 : Nat} {cs : Array Value} {T2 : TypeId}
    (ht : P.underlying t = some (.slice e)) (he : (P.info? e).bind (fun i => i.zero.map fun z => (i.size, i.bytes, z.cells.toList)) = some (k, by_, z)) (hz : z.length = k) (hk0 : Nat.blt 0 k = true)
    (hi : its[i]? = some (d.blk e f xs)) (hn : xs.length = n) (hd : d.ok k n) (hj : its[j]? = some [(b2, .cells cs T2 (0, 0))]) (hs : cs = (f y).toArray)
    (h1 : (f y).all oneC = true) (hsz : (n + 1) * by_ ≤ 140737488355328) (h63 : n + 1 ≤ 9223372036854775807) :
    RunX P W base its (do pure (Next.value (← Builtin.append_ #[t, t] ty #[.slice d.a n d.cap, .slice (some ⟨b2, 0, none⟩) 1 1]))) (fun d' : SD => .value (.slice d'.a (n + 1) d'.cap))
      (fun d' => its.set i (d'.blk e f (xs ++ [y]))) (fun d' => d'.ok k (n + 1)) :=
  runAppendN hk d xs [y] n i (j + 1, 0) ht he hz hk0 hi hn hd (b2 := b2) (cs := cs) (T2 := T2) (fr2 := (0, 0)) (by simp [blkAt, hj]) (fun q u hu => by simpa [hs] using hu)
    (fun x hx u hu => by simp only [List.mem_singleton] at hx; subst hx; exact List.all_eq_true.1 h1 u hu) rfl hsz h63
theorem sNilI {m : Option Nat} {n : Nat} {ds : List Deferred} {Q : Exit → Act → World → Prop} {k : List KI} {e : Env} (hk : WS P W base m n ds Q k e (its ++ [[]])) : WS P W base m n ds Q k e its :=
  sRe (by simp) hk

/-- Elements of one cell. -/
theorem runLoadE1 {α : Type} {f : α → List Value} (hk : ∀ x, (f x).length = 1) {xs : List α} {rest : List Value} {T b : Nat} {T' : TypeId} {i : Nat} {x : α} {v : Value} (h : Nat × Nat)
    (hb : blkAt base its h = some (b, .cells (arr f xs rest) T' (0, 0))) (hx : xs[i]? = some x) (hv : (f x)[0]? = some v)
    (hT : (P.underlying T).map (fun d => match d with | .struct _ | .array _ _ => true | _ => false) = some false) :
    RunR P W base its (do pure (Next.value (← Instr.loadAt T (.pointer (some ⟨b, i * 1, none⟩))))) (.value v) := runLoadE hk 0 h hb hx (by decide) hv hT
theorem runLoadBE1 {α : Type} {f : α → List Value} (hk : ∀ x, (f x).length = 1) {xs : List α} {T b o i : Nat} {x : α} {v : Value} (hB : ∀ j u, (xs.flatMap f)[j]? = some u → W.cell? ⟨b, o + j, none⟩ = some u) (hx : xs[i]? = some x)
    (hv : (f x)[0]? = some v) (hT : (P.underlying T).map (fun d => match d with | .struct _ | .array _ _ => true | _ => false) = some false) :
    RunR P W base its (do pure (Next.value (← Instr.loadAt T (.pointer (some ⟨b, o + i * 1, none⟩))))) (.value v) := runLoadBE hk 0 hB hx (by decide) hv hT
end
end Go.Sx
