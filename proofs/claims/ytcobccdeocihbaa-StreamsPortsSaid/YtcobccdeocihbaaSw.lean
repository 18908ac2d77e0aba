/- More laws for the walk calculus: append from any source, slice expressions, make, several writes in one region, division, strings. -/
import Derived.Test.YtcobccdeocihbaaSz
import Derived.Laws.Strings
set_option linter.unusedVariables false
set_option linter.unusedSimpArgs false
namespace Go.Sx
open Go.RowKit
section
variable {P : Program} {W : World} {base : List Blk} {its : Items}
/-- 'append(xs, ys...)': xs its own (or nil); ys of whatever memory, or nothing. -/
theorem runAppendS {α : Type} {f : α → List Value} {k : Nat} (hk : ∀ x, (f x).length = k) {t ty e by_ : Nat} {z : List Value} (d : SD) (xs ys : List α) (n : Nat) (i : Nat) {sa : Option Addr} {c2 m : Nat}
    (ht : P.underlying t = some (.slice e)) (he : (P.info? e).bind (fun i => i.zero.map fun z => (i.size, i.bytes, z.cells.toList)) = some (k, by_, z)) (hz : z.length = k) (hk0 : Nat.blt 0 k = true)
    (hi : its[i]? = some (d.blk e f xs)) (hn : xs.length = n) (hd : d.ok k n) (hsrc : BaseOk W base → ∀ w, SatI W w its → m = 0 ∨ ∃ p, sa = some p ∧ ∀ j u, (ys.flatMap f)[j]? = some u → w.cell? (p.add j) = some u)
    (h1 : ∀ y ∈ ys, ∀ u ∈ f y, oneC u = true) (hm : ys.length = m) (hsz : (n + m) * by_ ≤ 140737488355328) (h63 : n + m ≤ 9223372036854775807) :
    RunX P W base its (do pure (Next.value (← Builtin.append_ #[t, t] ty #[.slice d.a n d.cap, .slice sa m c2]))) (fun d' : SD => .value (.slice d'.a (n + m) d'.cap))
      (fun d' => its.set i (d'.blk e f (xs ++ ys))) (fun d' => d'.ok k (n + m)) := by
  intro hbase w hsat
  subst hn
  rcases hsrc hbase w hsat with hm0 | ⟨p, rfl, hnews⟩
  · subst hm0
    obtain rfl : ys = [] := List.eq_nil_of_length_eq_zero hm
    have hfc : ∀ (c2 : Nat) (sz : Nat), (Builtin.firstCells sz 0 (.slice sa 0 c2)).run P w = .ok #[] w := by
      intro c2 sz; cases sa <;> simp [Builtin.firstCells, loadCells, loadCellsFrom]
    obtain ⟨inf, g1, g2⟩ := Option.bind_eq_some_iff.1 he
    refine ⟨d, w, ?_, ?_, ?_⟩
    · simpa using hd
    · have hn0 : xs.length ≤ d.cap := by
        rcases hd with ⟨rfl, h⟩ | ⟨b, c, r, rfl, h, _⟩
        · simp [h]
        · exact h
      cases hda : d.a with
      | none => simp [Builtin.append_, run_underlying ht, sizeOf, typeInfo, g1, Builtin.lenOf, hfc, hn0, hda]
      | some q => simp [Builtin.append_, run_underlying ht, sizeOf, typeInfo, g1, Builtin.lenOf, hfc, hn0, hda, storeCells]
    · have : its.set i (d.blk e f (xs ++ [])) = its := by
        rw [List.append_nil]
        refine List.ext_getElem? (fun j => ?_)
        rw [List.getElem?_set]
        by_cases hj : i = j
        · subst hj; rw [if_pos rfl, if_pos (List.getElem?_eq_some_iff.1 hi).1, hi]
        · rw [if_neg hj]
      show SatI W w (its.set i (d.blk e f (xs ++ [])))
      rw [this]; exact hsat
  subst hm
  obtain ⟨inf, g1, g2⟩ := Option.bind_eq_some_iff.1 he
  obtain ⟨zv, g3, g4⟩ := Option.map_eq_some_iff.1 g2
  simp only [Prod.mk.injEq] at g4
  obtain ⟨g5, g6, g7⟩ := g4
  have hil : i < its.length := (List.getElem?_eq_some_iff.1 hi).1
  have hnl : (ys.flatMap f).length = ys.length * inf.size := by rw [flatMap_len hk, g5]
  have hxl : (xs.flatMap f).length = xs.length * inf.size := by rw [flatMap_len hk, g5]
  have hone : ∀ u ∈ ys.flatMap f, u.oneCell' = true := by
    intro u hu
    obtain ⟨y, hy, hu'⟩ := List.mem_flatMap.1 hu
    have := h1 y hy u hu'
    cases u <;> first | rfl | (simp [oneC] at this)
  have hk1 : 0 < k := by simpa [Nat.blt_eq] using hk0
  have hzl : zv.cells.size = k := by rw [← hz, ← g7]; simp
  have hzc : ∀ j, (Builtin.zeroCells zv.cells j).toList.length = j * k := by intro j; rw [Array.length_toList, size_zeroCells, hzl]
  have happ : ∀ (r : List Value), arr f (xs ++ ys) r = (xs.flatMap f ++ ys.flatMap f ++ r).toArray := by intro r; simp [arr]
  have hlen : (xs ++ ys).length = xs.length + ys.length := List.length_append
  rcases hd with ⟨rfl, hx0⟩ | ⟨b, c, r, rfl, hc, hr⟩
  · have hx : xs = [] := List.eq_nil_of_length_eq_zero hx0
    subst hx
    simp only [List.length_nil, Nat.zero_add, List.nil_append] at *
    by_cases hy : ys = []
    · subst hy
      refine ⟨⟨none, 0, []⟩, w, SD.ok_nil k, ?_, ?_⟩
      · simp [Builtin.append_, run_underlying ht, sizeOf, typeInfo, g1, Builtin.lenOf, Builtin.firstCells, loadCells, loadCellsFrom]
      · have : its.set i (SD.blk e f ⟨none, 0, []⟩ ([] : List α)) = its := by
          refine List.ext_getElem? (fun j => ?_)
          rw [List.getElem?_set]
          by_cases hj : i = j
          · subst hj; rw [if_pos rfl, if_pos hil, hi]
          · rw [if_neg hj]
        rw [this]; exact hsat
    · have hpos : 0 < ys.length := by cases ys with | nil => exact absurd rfl hy | cons _ _ => simp
      have hrun := run_append_nil (P := P) w t ty e inf zv ht g1 g3 p ys.length c2 (ys.flatMap f) hnl hnews hpos (by omega) (by rw [g6]; omega)
      have hge := grownCap_ge w ys.length 0 e
      refine ⟨⟨some ⟨w.heap.size, 0, none⟩, grownCap w ys.length 0 e, (Builtin.zeroCells zv.cells (grownCap w ys.length 0 e - ys.length)).toList⟩,
        w.drew.alloc (.cells ((ys.flatMap f).toArray ++ Builtin.zeroCells zv.cells (grownCap w ys.length 0 e - ys.length)) e), .inr ⟨_, _, _, rfl, hge, ?_⟩, ?_, ?_⟩
      · rw [hzc, ← Nat.add_mul]; congr 1; omega
      · simp only [Sem.run_bind, hrun, Result.andThen_ok, Sem.run_pure]
      · have h3 := SatI.setNew (w := w.drew) (Sat.drawn hsat (w.drawn + 1)) hil (.cells ((ys.flatMap f).toArray ++ Builtin.zeroCells zv.cells (grownCap w ys.length 0 e - ys.length)) e)
        have e2 : SD.blk e f ⟨some ⟨w.heap.size, 0, none⟩, grownCap w ys.length 0 e, (Builtin.zeroCells zv.cells (grownCap w ys.length 0 e - ys.length)).toList⟩ ys =
            [(w.heap.size, .cells ((ys.flatMap f).toArray ++ Builtin.zeroCells zv.cells (grownCap w ys.length 0 e - ys.length)) e)] := by
          simp only [SD.blk, arr]
          congr 3
          apply Array.ext'; simp
        simp only [e2]; exact h3
  · have hi' : its[i]? = some [(b, .cells (arr f xs r) e (0, 0))] := hi
    have hh : w.heap[b]? = some (.cells (arr f xs r) e (0, 0)) := hsat.at hbase (ij := (i + 1, 0)) (by simp only [blkAt, hi']; rfl)
    have hcs : (arr f xs r).size = c * k := by rw [arr_size hk, hr]
    by_cases hroom : xs.length + ys.length ≤ c
    · have hfit : xs.length * inf.size + (ys.flatMap f).length ≤ (arr f xs r).size := by
        rw [hnl, hcs, g5, ← Nat.add_mul]; exact Nat.mul_le_mul_right _ hroom
      have hrun := run_append_room (P := P) w t ty e inf ht g1 b xs.length c (arr f xs r) hh p ys.length c2 (ys.flatMap f) hnl hnews hone hroom hfit
      have hnew : ((arr f xs r).toList.take (xs.length * inf.size) ++ ys.flatMap f ++ (arr f xs r).toList.drop (xs.length * inf.size + (ys.flatMap f).length)).toArray = arr f (xs ++ ys) (r.drop (ys.flatMap f).length) := by
        rw [happ]
        congr 1
        simp only [arr]
        have e1 : (xs.flatMap f ++ r).take (xs.length * inf.size) = xs.flatMap f := by rw [← hxl]; exact List.take_left
        have e2 : (xs.flatMap f ++ r).drop (xs.length * inf.size + (ys.flatMap f).length) = r.drop (ys.flatMap f).length := by
          rw [← hxl, List.drop_append, List.drop_of_length_le (by omega), List.nil_append]
          congr 1; omega
        rw [e1, e2]
      rw [hnew] at hrun
      refine ⟨⟨some ⟨b, 0, none⟩, c, r.drop (ys.flatMap f).length⟩, w.setRow b (arr f (xs ++ ys) (r.drop (ys.flatMap f).length)), .inr ⟨_, _, _, rfl, hroom, ?_⟩, ?_, setRow_set hsat hi' _⟩
      · rw [List.length_drop, Nat.add_mul, hnl, g5]
        have : (xs.length + ys.length) * k ≤ c * k := Nat.mul_le_mul_right _ hroom
        rw [Nat.add_mul] at this
        omega
      · simp only [Sem.run_bind, hrun, Result.andThen_ok, Sem.run_pure]
    · have holds : ∀ j u, (xs.flatMap f)[j]? = some u → w.cell? ((⟨b, 0, none⟩ : Addr).add j) = some u := by
        intro j u hj
        have hadd : (⟨b, 0, none⟩ : Addr).add j = ⟨b, j, none⟩ := by unfold Addr.add; split <;> simp_all
        rw [hadd]
        refine cell_of hh ?_
        simp only [arr, List.getElem?_toArray]
        rw [List.getElem?_append_left (List.getElem?_eq_some_iff.1 hj).1]; exact hj
      have hrun := run_append_grow (P := P) w t ty e inf zv ht g1 g3 ⟨b, 0, none⟩ xs.length c (xs.flatMap f) hxl holds p ys.length c2 (ys.flatMap f) hnl hnews (by omega) (by omega) (growslice_fits (by omega) (by rw [g6]; exact hsz))
      have hge := grownCap_ge w (xs.length + ys.length) c e
      refine ⟨⟨some ⟨w.heap.size, 0, none⟩, grownCap w (xs.length + ys.length) c e, (Builtin.zeroCells zv.cells (grownCap w (xs.length + ys.length) c e - (xs.length + ys.length))).toList⟩,
        w.drew.alloc (.cells ((xs.flatMap f).toArray ++ (ys.flatMap f).toArray ++ Builtin.zeroCells zv.cells (grownCap w (xs.length + ys.length) c e - (xs.length + ys.length))) e), .inr ⟨_, _, _, rfl, hge, ?_⟩, ?_, ?_⟩
      · rw [hzc, ← Nat.add_mul]; congr 1; omega
      · simp only [Sem.run_bind, hrun, Result.andThen_ok, Sem.run_pure]
      · have h3 := SatI.setNew (w := w.drew) (Sat.drawn hsat (w.drawn + 1)) hil (.cells ((xs.flatMap f).toArray ++ (ys.flatMap f).toArray ++ Builtin.zeroCells zv.cells (grownCap w (xs.length + ys.length) c e - (xs.length + ys.length))) e)
        have e2 : SD.blk e f ⟨some ⟨w.heap.size, 0, none⟩, grownCap w (xs.length + ys.length) c e, (Builtin.zeroCells zv.cells (grownCap w (xs.length + ys.length) c e - (xs.length + ys.length))).toList⟩ (xs ++ ys) =
            [(w.heap.size, .cells ((xs.flatMap f).toArray ++ (ys.flatMap f).toArray ++ Builtin.zeroCells zv.cells (grownCap w (xs.length + ys.length) c e - (xs.length + ys.length))) e)] := by
          simp only [SD.blk, happ]
          congr 3
          apply Array.ext'; simp
        simp only [e2]; exact h3


theorem addr_add0 (p : Addr) : p.add 0 = p := by simp [Addr.add]
/-- x[:h] -/
theorem runSliceHi {T E n c : Nat} {a : Option Addr} {ik : IntKind} (h : Nat) (hT : P.underlying T = some (.slice E)) (hE : (P.info? E).isSome = true) (hh : h ≤ c) :
    RunR P W base its (do pure (Next.value (← Instr.sliceAt T (.slice a n c) none (some (.int ik (h : Int))) none))) (.value (.slice a h c)) := by
  intro _ w _
  obtain ⟨inf, h1⟩ := Option.isSome_iff_exists.1 hE
  have ha : (if c = 0 then a else a.map (·.add 0)) = a := by
    split
    · rfl
    · cases a <;> simp [addr_add0]
  simp [Instr.sliceAt, Instr.slice, Instr.sliceBounds, Instr.sliceBound, asIntOf, run_underlying hT, sizeOf, typeInfo, h1, hh, ha]
/-- x[l:] -/
theorem runSliceLo {T E n c k : Nat} {b o : Nat} {ik : IntKind} (l : Nat) (hT : P.underlying T = some (.slice E)) (hE : (P.info? E).map (·.size) = some k) (hl : l ≤ n) (hn : l < c) :
    RunR P W base its (do pure (Next.value (← Instr.sliceAt T (.slice (some ⟨b, o, none⟩) n c) (some (.int ik (l : Int))) none none))) (.value (.slice (some ⟨b, o + l * k, none⟩) (n - l) (c - l))) := by
  intro _ w _
  obtain ⟨inf, h1, h2⟩ := Option.map_eq_some_iff.1 hE
  have hc : ¬ c = l := by omega
  have hadd : (⟨b, o, none⟩ : Addr).add (l * k) = ⟨b, o + l * k, none⟩ := by unfold Addr.add; split <;> simp_all
  simp [Instr.sliceAt, Instr.slice, Instr.sliceBounds, Instr.sliceBound, asIntOf, run_underlying hT, sizeOf, typeInfo, h1, h2, hl, hc, hadd]
theorem fm_get {α : Type} {f : α → List Value} {k : Nat} : ∀ {xs : List α} {i : Nat} {x : α}, (∀ x ∈ xs, (f x).length = k) → xs[i]? = some x → ∀ {t : Nat}, t < k → (xs.flatMap f)[i * k + t]? = (f x)[t]?
  | [], i, x, _, h, t, ht => by simp at h
  | y :: xs, 0, x, hk, h, t, ht => by
    simp only [List.getElem?_cons_zero, Option.some.injEq] at h; subst h
    simp only [List.flatMap_cons, Nat.zero_mul, Nat.zero_add]
    rw [List.getElem?_append_left (by rw [hk y (by simp)]; exact ht)]
  | y :: xs, i + 1, x, hk, h, t, ht => by
    simp only [List.getElem?_cons_succ] at h
    simp only [List.flatMap_cons]
    have hy := hk y (by simp)
    have e1 : (i + 1) * k + t = (f y).length + (i * k + t) := by rw [hy, Nat.add_mul]; omega
    rw [e1, List.getElem?_append_right (by omega), show (f y).length + (i * k + t) - (f y).length = i * k + t from by omega]
    exact fm_get (fun x hx => hk x (by simp [hx])) h ht
/-- make([]T, n) -/
theorem runMake {α : Type} {f : α → List Value} {k by_ : Nat} {z : List Value} {t e : Nat} {kl kc : IntKind} (n : Nat) (x0 : α) (ht : P.underlying t = some (.slice e))
    (he : (P.info? e).bind (fun i => i.zero.map fun z => (i.size, i.bytes, z.cells.toList)) = some (k, by_, z)) (hz : f x0 = z) (hk0 : Nat.blt 0 k = true) (hzl : z.length = k) (hsz : by_ * n ≤ 281474976710656) (h63 : n ≤ 9223372036854775807) :
    RunX P W base its (do pure (Next.value (← Instr.makeSlice t (.int kl (n : Int)) (.int kc (n : Int))))) (fun b : Nat => .value (.slice (some ⟨b, 0, none⟩) n n))
      (fun b => its ++ [[(b, .cells (arr f (List.replicate n x0) []) e)]]) (fun _ => True) := by
  intro _ w hs
  obtain ⟨inf, g1, g2⟩ := Option.bind_eq_some_iff.1 he
  obtain ⟨zv, g3, g4⟩ := Option.map_eq_some_iff.1 g2
  simp only [Prod.mk.injEq] at g4
  obtain ⟨g5, g6, g7⟩ := g4
  have hr := run_make (P := P) w t e inf zv ht g1 g3 kl kc (n : Int) (n : Int) (by omega) (by omega) (by rw [g6, ← Int.natCast_mul]; omega) (by omega)
  have hk1 : 0 < k := by simpa [Nat.blt_eq] using hk0
  have hkz : zv.cells.size = k := by rw [← hzl, ← g7]; simp
  have hmc : madeCells zv.cells (n * k) = arr f (List.replicate n x0) [] := by
    apply Array.ext'
    have hlen : ((List.replicate n x0).flatMap f).length = n * k := by simp [List.length_flatMap, hz, hzl]
    simp only [arr, List.append_nil, madeCells, Array.toList_map, Array.toList_range]
    apply List.ext_getElem
    · simp [List.length_flatMap, hz, hzl]
    · intro q h1 h2
      simp only [List.getElem_map, List.getElem_range]
      have hq : q < n * k := by simpa using h1
      have hqk : q % k < k := Nat.mod_lt _ hk1
      have hrep : (List.replicate n x0)[q / k]? = some x0 := by
        rw [List.getElem?_replicate, if_pos]
        exact Nat.div_lt_of_lt_mul (by rw [Nat.mul_comm]; exact hq)
      have e1 := fm_get (f := f) (k := k) (xs := List.replicate n x0) (fun x hx => by rw [List.eq_of_mem_replicate hx, hz, hzl]) hrep hqk
      rw [show q / k * k + q % k = q from by rw [Nat.mul_comm]; exact Nat.div_add_mod q k] at e1
      rw [List.getElem?_eq_getElem h2, hz] at e1
      have e2 : z[q % k]? = some (z[q % k]'(by omega)) := List.getElem?_eq_getElem _
      rw [e2] at e1
      simp only [Option.some.injEq] at e1
      subst g7
      rw [e1]
      simp only [hkz]
      rw [getElem!_pos _ _ (by rw [hkz]; exact hqk), Array.getElem_toList]
  refine ⟨w.heap.size, w.alloc (.cells (madeCells zv.cells ((n : Int).toNat * inf.size)) e), trivial, ?_, ?_⟩
  · rw [Sem.run_bind, hr]; rfl
  · have h1 := Sat.new hs (.cells (arr f (List.replicate n x0) []) e)
    have e1 : w.alloc (.cells (madeCells zv.cells ((n : Int).toNat * inf.size)) e) = { w with heap := w.heap.push (.cells (arr f (List.replicate n x0) []) e) } := by
      rw [Int.toNat_natCast, g5, hmc]; rfl
    rw [e1]
    unfold SatI
    simpa [SatI] using h1

/-! ### Several may come up -/
section
variable {m : Option Nat} {n : Nat} {ds : List Deferred} {Q : Exit → Act → World → Prop} {k : List KI} {e : Env}
def HOp (P : Program) (W : World) (base : List Blk) (m : Option Nat) (n : Nat) (ds : List Deferred) (Q : Exit → Act → World → Prop) (k : List KI) (ops : Array Oper) (kept : Items) (rem : Nat) (done : List Nat) (e : Env) (its : Items) (i : Nat) : Prop :=
  BaseOk W base → GQ Q → ∀ a w, St n ds a e → SatI W w its → wpOp P ops (post P m Q k) i (fun a' w' => SatI W w' kept ∧ wpAnyH P .any ops (post P m Q k) (fun w => SatI W w kept) rem ((mkL ops.size done).setIfInBounds i true) a' w') a w
theorem hOp {ops : Array Oper} {kept : Items} {rem : Nat} {done : List Nat} (i : Nat) {α : Type} {v : α → Value} {its' : α → Items} {φ : α → Prop} (idx : List Nat) (h : OS P W base n ds ops (opG ops i) e its v its' φ)
    (ho : (ops[i]?).isSome = true) (hn : nodupB idx = true) (hpk : ∀ r, pick idx (its' r) = some kept)
    (hk : ∀ r, φ r → WH P W base m n ds Q k ops kept rem (done ++ [i]) (setE e (opG ops i).dst (v r)) (its' r)) : HOp P W base m n ds Q k ops kept rem done e its i := by
  intro hb hq a w h1 h2
  obtain ⟨_, h⟩ := h
  obtain ⟨g1, g2⟩ := h hb (post P m Q k) a w h1 h2 (fun a' w' => SatI W w' kept ∧ wpAnyH P .any ops (post P m Q k) (fun w => SatI W w kept) rem ((mkL ops.size done).setIfInBounds i true) a' w')
    (fun r a' w' hr' h3 h4 => ⟨h4.pick idx hn (hpk r), by rw [← mkL_snoc]; exact hk r hr' hb hq a' w' h3 h4⟩)
  unfold wpOp
  simp only [opG_some ho]
  rw [if_pos g1]
  exact .inl g2
theorem hAll {ops : Array Oper} {kept : Items} {rem : Nat} {done : List Nat} (js : List Nat) (hr : Region.ready .any ops (mkL ops.size done) = js) (hj : js ≠ []) (h : ∀ j ∈ js, HOp P W base m n ds Q k ops kept rem done e its j) :
    WH P W base m n ds Q k ops kept (rem + 1) done e its := by
  intro hb hq a w h1 h2
  refine wpAnyH_all hr hj ?_
  intro j hj
  exact h j hj hb hq a w h1 h2
theorem hAll2 {ops : Array Oper} {kept : Items} {rem : Nat} {done : List Nat} (i j : Nat) (hr : Region.ready .any ops (mkL ops.size done) = [i, j]) (h1 : HOp P W base m n ds Q k ops kept rem done e its i) (h2 : HOp P W base m n ds Q k ops kept rem done e its j) :
    WH P W base m n ds Q k ops kept (rem + 1) done e its :=
  hAll [i, j] hr (by simp) (by intro q hq; simp only [List.mem_cons, List.not_mem_nil, or_false] at hq; rcases hq with rfl | rfl <;> assumption)
theorem hAll3 {ops : Array Oper} {kept : Items} {rem : Nat} {done : List Nat} (i j l : Nat) (hr : Region.ready .any ops (mkL ops.size done) = [i, j, l]) (h1 : HOp P W base m n ds Q k ops kept rem done e its i) (h2 : HOp P W base m n ds Q k ops kept rem done e its j)
    (h3 : HOp P W base m n ds Q k ops kept rem done e its l) : WH P W base m n ds Q k ops kept (rem + 1) done e its :=
  hAll [i, j, l] hr (by simp) (by intro q hq; simp only [List.mem_cons, List.not_mem_nil, or_false] at hq; rcases hq with rfl | rfl | rfl <;> assumption)
end

theorem wfRe {n : Nat} {ds : List Deferred} {Q : Exit → Act → World → Prop} {x : Exit} {e : Env} {its' : Items} (he : its.flatten = its'.flatten) (h : WF W base n ds Q x e its') : WF W base n ds Q x e its :=
  fun hb a w hs hi => h hb a w hs (hi.re he)
/-! ### Slices of the call's own, not opened -/
theorem sd_at {k : Nat} {d : SD} {n : Nat} (h : d.ok k n) (hn : 0 < n) : ∃ q, d.a = some ⟨q, 0, none⟩ := by
  obtain ⟨b, c, r, rfl, _, _⟩ := SD.ok.some h hn; exact ⟨b, rfl⟩
theorem sd_cap {k : Nat} {d : SD} {n : Nat} (h : d.ok k n) : n ≤ d.cap := by
  rcases h with ⟨rfl, h⟩ | ⟨b, c, r, rfl, h, _⟩
  · simp [h]
  · exact h
theorem sd_blk {α : Type} {T : TypeId} {f : α → List Value} {d : SD} {q : Nat} (hq : d.a = some ⟨q, 0, none⟩) (xs : List α) : d.blk T f xs = [(q, .cells (arr f xs d.rest) T)] := by simp [SD.blk, hq]
theorem sd_at0 {α : Type} {T : TypeId} {f : α → List Value} {d : SD} {q : Nat} (hq : d.a = some ⟨q, 0, none⟩) {xs : List α} (i : Nat) (hi : its[i]? = some (d.blk T f xs)) : blkAt base its (i + 1, 0) = some (q, .cells (arr f xs d.rest) T) := by
  simp [blkAt, hi, sd_blk hq]
theorem runIndexD {T E n c b o k : Nat} {a : Option Addr} {ik : IntKind} (i : Nat) (ha : a = some ⟨b, o, none⟩) (hT : P.underlying T = some (.slice E)) (hE : (P.info? E).map (·.size) = some k) (hi : i < n) :
    RunR P W base its (do pure (Next.value (← Instr.indexAt T (.slice a n c) (.int ik (i : Int))))) (.value (.pointer (some ⟨b, o + i * k, none⟩))) := by
  subst ha; exact runIndex i hT hE hi
theorem runIndexD0 {T E n c b k : Nat} {a : Option Addr} {ik : IntKind} (i : Nat) (ha : a = some ⟨b, 0, none⟩) (hT : P.underlying T = some (.slice E)) (hE : (P.info? E).map (·.size) = some k) (hi : i < n) :
    RunR P W base its (do pure (Next.value (← Instr.indexAt T (.slice a n c) (.int ik (i : Int))))) (.value (.pointer (some ⟨b, i * k, none⟩))) := by
  subst ha; exact runIndex0 i hT hE hi
/-- A store into an element. -/
theorem runStoreD {α : Type} {f : α → List Value} {k : Nat} (hk : ∀ x, (f x).length = k) {xs : List α} {d : SD} {T q i : Nat} {T' : TypeId} {n : Nat} {x : α} (y : α) {v : Value} (t : Nat) (hq : d.a = some ⟨q, 0, none⟩)
    (hi : its[i]? = some (d.blk T' f xs)) (hx : xs[n]? = some x) (ht : t < k) (hy : f y = (f x).set t v) (h1 : oneC v = true) (hT : (P.info? T).map (·.size) = some 1) :
    RunX P W base its (do Instr.storeAt T (.pointer (some ⟨q, n * k + t, none⟩)) v; pure Next.skip) (fun _ : Unit => .skip) (fun _ => its.set i (d.blk T' f (xs.set n y))) (fun _ => True) := by
  have hb : (its[i]?).bind (·[0]?) = some (q, .cells (arr f xs d.rest) T' (0, 0)) := by rw [hi]; simp [sd_blk hq]
  have h := runStoreE (P := P) (W := W) (base := base) hk (T := T) (b := q) (i := i) (j := 0) (T' := T') (n := n) y t hb hx ht hy h1 hT
  intro hbase w hs
  obtain ⟨r, w', h2, h3, h4⟩ := h hbase w hs
  refine ⟨r, w', h2, h3, ?_⟩
  simpa [setBlk, hi, sd_blk hq] using h4
theorem runStoreD1 {α : Type} {f : α → List Value} (hk : ∀ x, (f x).length = 1) {xs : List α} {d : SD} {T q i : Nat} {T' : TypeId} {n : Nat} {x : α} (y : α) {v : Value} (hq : d.a = some ⟨q, 0, none⟩)
    (hi : its[i]? = some (d.blk T' f xs)) (hx : xs[n]? = some x) (hy : f y = [v]) (h1 : oneC v = true) (hT : (P.info? T).map (·.size) = some 1) :
    RunX P W base its (do Instr.storeAt T (.pointer (some ⟨q, n * 1, none⟩)) v; pure Next.skip) (fun _ : Unit => .skip) (fun _ => its.set i (d.blk T' f (xs.set n y))) (fun _ => True) := by
  have hf : f y = (f x).set 0 v := by
    have := hk x
    match hfx : f x, this with
    | [u], _ => simpa using hy
  exact runStoreD hk y 0 hq hi hx (by decide) hf h1 hT
/-- The source of an append: a part of a slice of the call's own. -/
theorem srcD {α : Type} {f : α → List Value} {k : Nat} (hk : ∀ x, (f x).length = k) {T : TypeId} {d : SD} {n : Nat} (xs : List α) (i : Nat) (m : Nat) (hd : d.ok k n) (hn : xs.length = n) (hm : m ≤ n) (hi : its[i]? = some (d.blk T f xs)) :
    BaseOk W base → ∀ w, SatI W w its → m = 0 ∨ ∃ p, d.a = some p ∧ ∀ j u, ((xs.take m).flatMap f)[j]? = some u → w.cell? (p.add j) = some u := by
  intro hb w hs
  by_cases hm0 : m = 0
  · exact .inl hm0
  obtain ⟨q, hq⟩ := sd_at hd (by omega)
  refine .inr ⟨⟨q, 0, none⟩, hq, fun j u hu => ?_⟩
  have hh : w.heap[q]? = some (.cells (arr f xs d.rest) T (0, 0)) := hs.at hb (ij := (i + 1, 0)) (sd_at0 hq i hi)
  have hadd : (⟨q, 0, none⟩ : Addr).add j = ⟨q, j, none⟩ := by unfold Addr.add; split <;> simp_all
  rw [hadd]
  refine cell_of hh ?_
  have hj := (List.getElem?_eq_some_iff.1 hu).1
  have e1 : xs.flatMap f = (xs.take m).flatMap f ++ (xs.drop m).flatMap f := by rw [← List.flatMap_append, List.take_append_drop]
  simp only [arr, List.getElem?_toArray, e1, List.append_assoc]
  rw [List.getElem?_append_left hj]; exact hu
/-- .. a slice of the arguments. -/
theorem srcB {α : Type} {f : α → List Value} {a : Option Addr} {xs : List α} (h : BS W f a xs) :
    BaseOk W base → ∀ w, SatI W w its → xs.length = 0 ∨ ∃ p, a = some p ∧ ∀ j u, (xs.flatMap f)[j]? = some u → w.cell? (p.add j) = some u := by
  intro _ w hs
  rcases h with h | ⟨b, o, rfl, h⟩
  · left; simp [h]
  · refine .inr ⟨_, rfl, fun j u hu => ?_⟩
    have hadd : (⟨b, o, none⟩ : Addr).add j = ⟨b, o + j, none⟩ := by unfold Addr.add; split <;> simp_all
    rw [hadd]; exact Sat.cellB hs (h j u hu)
theorem lNilI {m : Option Nat} {n : Nat} {ds : List Deferred} {Q : Exit → Act → World → Prop} {k : List KI} {e : Env} {ops : Array Oper} {rest : List Oper} (hk : WL P W base m n ds Q k ops rest e (its ++ [[]])) : WL P W base m n ds Q k ops rest e its := lRe (by simp) hk
theorem sd_lit2 (b : Nat) {k n : Nat} : SD.ok k ⟨some ⟨b, 0, none⟩, n, []⟩ n := .inr ⟨b, n, [], rfl, Nat.le_refl _, by simp⟩
theorem drop_of {α : Type} {l : List α} {k : Nat} {x : α} (h : l[k]? = some x) : l.drop k = x :: l.drop (k + 1) := by
  obtain ⟨h1, h2⟩ := List.getElem?_eq_some_iff.1 h
  rw [List.drop_eq_getElem_cons h1, h2]
theorem SD.ok_lit (b c : Nat) {k : Nat} (h : c * k = 0 := by rfl) : SD.ok k ⟨some ⟨b, 0, none⟩, c, []⟩ 0 := .inr ⟨b, c, [], rfl, Nat.zero_le _, by simpa using h⟩
theorem srcA {α : Type} {f : α → List Value} {k : Nat} (hk : ∀ x, (f x).length = k) {T b m : Nat} {xs : List α} {rest : List Value} (i : Nat) (hi : its[i]? = some [(b, .cells (arr f xs rest) T)]) :
    BaseOk W base → ∀ w, SatI W w its → m = 0 ∨ ∃ p, some (⟨b, 0, none⟩ : Addr) = some p ∧ ∀ j u, (xs.flatMap f)[j]? = some u → w.cell? (p.add j) = some u := by
  intro hb w hs
  refine .inr ⟨⟨b, 0, none⟩, rfl, fun j u hu => ?_⟩
  have hh : w.heap[b]? = some (.cells (arr f xs rest) T (0, 0)) := hs.at hb (ij := (i + 1, 0)) (show blkAt base its (i + 1, 0) = some (b, .cells (arr f xs rest) T (0, 0)) by simp [blkAt, hi])
  have hadd : (⟨b, 0, none⟩ : Addr).add j = ⟨b, j, none⟩ := by unfold Addr.add; split <;> simp_all
  rw [hadd]
  refine cell_of hh ?_
  simp only [arr, List.getElem?_toArray]
  rw [List.getElem?_append_left (List.getElem?_eq_some_iff.1 hu).1]; exact hu
theorem runStoreE1 {α : Type} {f : α → List Value} (hk : ∀ x, (f x).length = 1) {xs : List α} {rest : List Value} {T b i j : Nat} {T' : TypeId} {n : Nat} {x : α} (y : α) {v : Value}
    (hb : (its[i]?).bind (·[j]?) = some (b, .cells (arr f xs rest) T' (0, 0))) (hx : xs[n]? = some x) (hy : f y = [v]) (h1 : oneC v = true) (hT : (P.info? T).map (·.size) = some 1) :
    RunX P W base its (do Instr.storeAt T (.pointer (some ⟨b, n * 1, none⟩)) v; pure Next.skip) (fun _ : Unit => .skip) (fun _ => setBlk its i j (b, .cells (arr f (xs.set n y) rest) T' (0, 0))) (fun _ => True) := by
  have hf : f y = (f x).set 0 v := by
    have := hk x
    match hfx : f x, this with
    | [u], _ => simpa using hy
  exact runStoreE hk y 0 hb hx (by decide) hf h1 hT
/-! ### Division by what is not 0 -/
theorem runQuo {T : TypeId} {o1 o2 : Operand} {k : IntKind} {x y : Int} (hy : y ≠ 0) :
    RunR P W base its (do pure (Next.value (← (do eqGuard .quo T o1 o2 (.int k x) (.int k y); binOp .quo T (.int k x) (.int k y))))) (.value (.int k (k.wrap (x.tdiv y)))) := by
  intro _ w _
  simp [eqGuard, binOp, Op.intDiv, hy]
theorem runRem {T : TypeId} {o1 o2 : Operand} {k : IntKind} {x y : Int} (hy : y ≠ 0) :
    RunR P W base its (do pure (Next.value (← (do eqGuard .rem T o1 o2 (.int k x) (.int k y); binOp .rem T (.int k x) (.int k y))))) (.value (.int k (x.tmod y))) := by
  intro _ w _
  simp [eqGuard, binOp, Op.intDiv, hy]
theorem tdiv_mul_bnd {x a : Int} (hx : 0 ≤ x) (ha : 1 ≤ a) : 0 ≤ x.tdiv a ∧ x.tdiv a ≤ x ∧ 0 ≤ x.tdiv a * a ∧ x.tdiv a * a ≤ x := by
  rw [Int.tdiv_eq_ediv_of_nonneg hx]
  have h1 := Int.ediv_mul_le x (show a ≠ 0 by omega)
  have h2 := Int.ediv_nonneg hx (show 0 ≤ a by omega)
  exact ⟨h2, Int.ediv_le_self _ hx, Int.mul_nonneg h2 (by omega), h1⟩
/-! ### Strings -/
theorem ba_inj {a b : ByteArray} (h : a.toList = b.toList) : a = b := by
  rw [ByteArray.toList_eq, ByteArray.toList_eq] at h
  obtain ⟨⟨a⟩⟩ := a; obtain ⟨⟨b⟩⟩ := b
  have : a = b := h
  rw [this]
theorem bpS (a b : ByteArray) : BP (a.toList == b.toList) (a = b) := ⟨by
  rw [beq_iff_eq]; exact ⟨ba_inj, fun h => by rw [h]⟩⟩
theorem ba_empty {s : ByteArray} : s = (⟨#[]⟩ : ByteArray) ↔ s.size = 0 := by
  obtain ⟨⟨l⟩⟩ := s
  constructor
  · intro h; rw [h]; rfl
  · intro h
    have : l = [] := List.eq_nil_of_length_eq_zero h
    rw [this]
end
end Go.Sx
