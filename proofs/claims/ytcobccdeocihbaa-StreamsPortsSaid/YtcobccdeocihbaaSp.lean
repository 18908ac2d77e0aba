/- Laws on structures that are compared, on shifts, and on append with a string. -/
import Derived.Test.YtcobccdeocihbaaSq
import Derived.Laws.StructEq
set_option linter.unusedVariables false
set_option linter.unusedSimpArgs false
namespace Go.Sx
open Go
/-! ### Structures of numbers and strings compare cell by cell -/
inductive LV where
  | i (k : IntKind) (a : Int)
  | s (b : ByteArray)
def LV.v : LV → Value
  | .i k a => .int k a
  | .s b => .string b
def LV.eq : LV → LV → Bool
  | .i _ a, .i _ b => a == b
  | .s a, .s b => a.toList == b.toList
  | _, _ => false
def typeFit (P : Program) (t : TypeId) : LV × LV → Bool
  | (.i k _, .i k' _) => decide (k = k') && (match P.underlying t with | some (.int _) => true | _ => false)
  | (.s _, .s _) => match P.underlying t with | some .string => true | _ => false
  | _ => false
def fitB (P : Program) : List Field → List (LV × LV) → Nat → Bool
  | [], [], _ => true
  | f :: fs, p :: ps, i => decide (f.name ≠ "_") && Nat.beq f.offset i && typeFit P f.type p && fitB P fs ps (i + 1)
  | _, _, _ => false
theorem run_eqFields {P : Program} (d : Nat) (xs ys : Array Value) (w : World) : ∀ (fs : List Field) (ps : List (LV × LV)) (i : Nat), fitB P fs ps i = true →
    (∀ j p, ps[j]? = some p → xs[i + j]? = some p.1.v ∧ ys[i + j]? = some p.2.v) → (Op.eqFields (d + 1) xs ys fs).run P w = .ok (ps.all fun p => p.1.eq p.2) w
  | [], [], i, _, _ => by simp [Op.eqFields]
  | [], p :: ps, i, h, _ => by simp [fitB] at h
  | f :: fs, [], i, h, _ => by simp [fitB] at h
  | f :: fs, p :: ps, i, h, hc => by
    simp only [fitB, Bool.and_eq_true, decide_eq_true_eq] at h
    obtain ⟨⟨⟨h1, h2⟩, h3⟩, h4⟩ := h
    have h2' : f.offset = i := Nat.eq_of_beq_eq_true h2
    have ih := run_eqFields d xs ys w fs ps (i + 1) h4 (fun j p hj => by
      have := hc (j + 1) p (by simpa using hj)
      rwa [show i + (j + 1) = i + 1 + j by omega] at this)
    obtain ⟨hx, hy⟩ := hc 0 p (by simp)
    simp only [Nat.add_zero] at hx hy
    have key : ∃ X, P.underlying f.type = some X ∧ (match X with | .struct _ | .array _ _ => true | _ => false) = false ∧ (Op.equalIn (d + 1) f.type p.1.v p.2.v).run P w = .ok (p.1.eq p.2) w := by
      obtain ⟨a, b⟩ := p
      cases a with
      | i k a => cases b with
        | s b => simp [typeFit] at h3
        | i k' b =>
          simp only [typeFit, Bool.and_eq_true, decide_eq_true_eq] at h3
          obtain ⟨rfl, h3⟩ := h3
          split at h3
          · rename_i k2 hT
            exact ⟨_, hT, rfl, by rw [show (LV.i k a).v = .int k a from rfl, show (LV.i k b).v = .int k b from rfl, run_equalIn_int w d _ k k2 a b hT]; rfl⟩
          · cases h3
      | s a => cases b with
        | i k' b => simp [typeFit] at h3
        | s b =>
          simp only [typeFit] at h3
          split at h3
          · rename_i hT
            exact ⟨_, hT, rfl, by rw [show (LV.s a).v = .string a from rfl, show (LV.s b).v = .string b from rfl, run_equalIn_string w d _ a b hT]; rfl⟩
          · cases h3
    obtain ⟨X, hT, hA, he⟩ := key
    have hp : ∀ (zs : Array Value) (v : Value), zs[f.offset]? = some v → (part f.type zs f.offset).run P w = .ok v w := by
      intro zs v hz
      unfold part
      simp only [Sem.run_bind, isAgg, run_underlying hT, Result.andThen_ok, Sem.run_pure, hz]
      cases X <;> first | (simp at hA; done) | rfl
    have hpx := hp xs _ (by rw [h2']; exact hx)
    have hpy := hp ys _ (by rw [h2']; exact hy)
    simp only [Op.eqFields]
    rw [if_pos h1]
    simp only [Sem.run_bind, hpx, hpy, he, Result.andThen_ok, List.all_cons]
    cases hb : p.1.eq p.2 with
    | true => simp [ih]
    | false => simp
theorem lv_cells {ps : List (LV × LV)} : ∀ j p, ps[j]? = some p → ((ps.map (·.1.v)).toArray)[0 + j]? = some p.1.v ∧ ((ps.map (·.2.v)).toArray)[0 + j]? = some p.2.v := by
  intro j p h
  simp [h]
section
variable {P : Program} {W : World} {base : List Blk} {its : Items}
theorem runStructNeV {T : TypeId} {o1 o2 : Operand} (ps : List (LV × LV)) (hS : P.underlying T = some (.struct (P.fieldsOf T))) (hp : P.stoodInHeld T = false) (hg : P.eqGuardType P.depth T = false)
    (hf : fitB P (P.fieldsOf T).toList ps 0 = true) {a b : Array Value} (ha : a = (ps.map (·.1.v)).toArray) (hb : b = (ps.map (·.2.v)).toArray) :
    RunR P W base its (do pure (Next.value (← (do eqGuard .neq T o1 o2 (.agg a) (.agg b); binOp .neq T (.agg a) (.agg b))))) (.value (.bool (!(ps.all fun p => p.1.eq p.2)))) := by
  intro _ w _
  subst ha hb
  have h3 := run_eqFields (P := P) 9998 (ps.map (·.1.v)).toArray (ps.map (·.2.v)).toArray w _ _ 0 hf lv_cells
  simp only [Sem.run_bind, run_eqGuard_agg w .neq T o1 o2 _ _ hg, Result.andThen_ok, run_neq_struct, show (10000 : Nat) = 9999 + 1 from rfl, run_equalIn_agg w 9999 T _ _ hS hp, h3, Sem.run_pure]
/-! ### A shift to the right by a number that is not known -/
theorem runShr {T : TypeId} {o1 o2 : Operand} {k yk : IntKind} {x y : Int} (n : Nat) (hy : y = (n : Int)) (hn : n ≤ k.bits) :
    RunR P W base its (do pure (Next.value (← (do eqGuard .shr T o1 o2 (.int k x) (.int yk y); binOp .shr T (.int k x) (.int yk y))))) (.value (.int k (x.fdiv (2 ^ n)))) := by
  intro _ w _
  subst hy
  have h0 : ¬ ((n : Int) < 0) := by omega
  simp only [eqGuard, binOp, Op.shift, Sem.run_bind]
  simp [h0, Nat.min_eq_left hn]
end
/-! ### append(xs, s...) with a string -/
section
variable {P : Program} {W : World} {base : List Blk} {its : Items}
theorem run_firstCells_string (w : World) (size : Nat) (s : ByteArray) : (Builtin.firstCells size s.size (.string s)).run P w = .ok (s.data.toList.map Extern.Stop.cell).toArray w := by
  have hx : (Array.map (fun b : UInt8 => Value.int IntKind.u8 (b.toNat : Int)) s.data).extract 0 s.size = Array.map (fun b : UInt8 => Value.int IntKind.u8 (b.toNat : Int)) s.data := by
    have hs : s.size = (Array.map (fun b : UInt8 => Value.int IntKind.u8 (b.toNat : Int)) s.data).size := by rw [Array.size_map]; rfl
    rw [hs, Array.extract_size]
  simp [Builtin.firstCells, hx]
  apply Array.ext'
  simp
  exact fun _ _ => rfl
theorem runAppendStr {f : UInt8 → List Value} (hf1 : ∀ x, f x = [Extern.Stop.cell x]) {t u ty e by_ : Nat} {z : List Value} (d : SD) (xs : List UInt8) (s : ByteArray) (n : Nat) (i : Nat)
    (ht : P.underlying t = some (.slice e)) (hu : P.underlying u = some .string) (he : (P.info? e).bind (fun i => i.zero.map fun z => (i.size, i.bytes, z.cells.toList)) = some (1, by_, z)) (hz : z.length = 1)
    (hi : its[i]? = some (d.blk e f xs)) (hn : xs.length = n) (hd : d.ok 1 n) (hn0 : 0 < n) (hsz : (n + s.size) * by_ ≤ 140737488355328) (h63 : n + s.size ≤ 9223372036854775807) :
    RunX P W base its (do pure (Next.value (← Builtin.append_ #[t, u] ty #[.slice d.a n d.cap, .string s]))) (fun d' : SD => .value (.slice d'.a (n + s.size) d'.cap))
      (fun d' => its.set i (d'.blk e f (xs ++ s.data.toList))) (fun d' => d'.ok 1 (n + s.size)) := by
  intro hbase w hsat
  subst hn
  obtain ⟨b, c, r, rfl, hc, hr⟩ := hd.some hn0
  have hk : ∀ x, (f x).length = 1 := fun x => by rw [hf1]; rfl
  obtain ⟨inf, g1, g2⟩ := Option.bind_eq_some_iff.1 he
  obtain ⟨zv, g3, g4⟩ := Option.map_eq_some_iff.1 g2
  simp only [Prod.mk.injEq] at g4
  obtain ⟨g5, g6, g7⟩ := g4
  have hil : i < its.length := (List.getElem?_eq_some_iff.1 hi).1
  have hss : s.data.toList.length = s.size := by rw [Array.length_toList]; rfl
  have hfm : ∀ l : List UInt8, l.flatMap f = l.map Extern.Stop.cell := flatMap_one hf1
  have hzl : zv.cells.size = 1 := by rw [← hz, ← g7]; simp
  have hzc : ∀ j, (Builtin.zeroCells zv.cells j).toList.length = j := by intro j; rw [Array.length_toList, size_zeroCells, hzl, Nat.mul_one]
  have hone : ∀ u ∈ s.data.toList.map Extern.Stop.cell, u.oneCell' = true := by
    intro u hu'; obtain ⟨x, _, rfl⟩ := List.mem_map.1 hu'; rfl
  have hi' : its[i]? = some [(b, .cells (arr f xs r) e (0, 0))] := hi
  have hh : w.heap[b]? = some (.cells (arr f xs r) e (0, 0)) := hsat.at hbase (ij := (i + 1, 0)) (by simp only [blkAt, hi']; rfl)
  have hcs : (arr f xs r).size = c := by rw [arr_size hk, ← hr, Nat.mul_one]
  have harr : ∀ (zs : List Value), arr f (xs ++ s.data.toList) zs = (xs.map Extern.Stop.cell ++ s.data.toList.map Extern.Stop.cell ++ zs).toArray := by intro zs; simp [arr, hfm]
  by_cases hroom : xs.length + s.size ≤ c
  · have hst := run_storeCells_at P b xs.length e (s.data.toList.map Extern.Stop.cell) 0 (arr f xs r) w hh (by simp only [Nat.add_zero, List.length_map, hss, hcs]; exact hroom) hone
    simp only [Nat.add_zero] at hst
    have hfc := run_firstCells_string (P := P) w inf.size s
    have hrun : (Builtin.append_ #[t, u] ty #[.slice (some ⟨b, 0, none⟩) xs.length c, .string s]).run P w = .ok (.slice (some ⟨b, 0, none⟩) (xs.length + s.size) c)
        (w.setRow b ((arr f xs r).toList.take xs.length ++ s.data.toList.map Extern.Stop.cell ++ (arr f xs r).toList.drop (xs.length + (s.data.toList.map Extern.Stop.cell).length)).toArray) := by
      simp [Builtin.append_, run_underlying ht, run_underlying hu, sizeOf, typeInfo, g1, g5, Builtin.lenOf, hroom, g5 ▸ hfc, Addr.add_lit]
      rw [hst]
      simp [hss]
    have hnew : ((arr f xs r).toList.take xs.length ++ s.data.toList.map Extern.Stop.cell ++ (arr f xs r).toList.drop (xs.length + (s.data.toList.map Extern.Stop.cell).length)).toArray = arr f (xs ++ s.data.toList) (r.drop s.size) := by
      rw [harr]
      congr 1
      simp only [arr, hfm]
      have e1 : (xs.map Extern.Stop.cell ++ r).take xs.length = xs.map Extern.Stop.cell := by
        conv => lhs; arg 1; rw [← List.length_map (f := Extern.Stop.cell) (as := xs)]
        exact List.take_left
      have e2 : (xs.map Extern.Stop.cell ++ r).drop (xs.length + (s.data.toList.map Extern.Stop.cell).length) = r.drop s.size := by
        rw [List.drop_append, List.drop_of_length_le (by simp), List.nil_append]
        congr 1; simp [List.length_map]
      rw [e1, e2]
    rw [hnew] at hrun
    refine ⟨⟨some ⟨b, 0, none⟩, c, r.drop s.size⟩, w.setRow b (arr f (xs ++ s.data.toList) (r.drop s.size)), .inr ⟨_, _, _, rfl, hroom, ?_⟩, ?_, setRow_set hsat hi' _⟩
    · rw [List.length_drop]; omega
    · simp only [Sem.run_bind, hrun, Result.andThen_ok, Sem.run_pure]
  · have hxl : (xs.map Extern.Stop.cell).length = xs.length * inf.size := by rw [List.length_map, g5, Nat.mul_one]
    have holds : ∀ j u, (xs.map Extern.Stop.cell)[j]? = some u → w.cell? ((⟨b, 0, none⟩ : Addr).add j) = some u := by
      intro j u' hj
      have hadd : (⟨b, 0, none⟩ : Addr).add j = ⟨b, j, none⟩ := by unfold Addr.add; split <;> simp_all
      rw [hadd]
      refine cell_of hh ?_
      simp only [arr, List.getElem?_toArray, hfm]
      rw [List.getElem?_append_left (List.getElem?_eq_some_iff.1 hj).1]; exact hj
    have hfo := run_firstCells_some (P := P) w.drew inf.size xs.length ⟨b, 0, none⟩ xs.length c (xs.map Extern.Stop.cell) hxl (by simpa using holds)
    have hfc := run_firstCells_string (P := P) w.drew inf.size s
    have h63' : ¬ (9223372036854775807 < ((xs.length : Int) + (s.size : Int))) := by omega
    have h48' : ¬ (281474976710656 < Builtin.nextslicecap (xs.length + s.size) c * inf.bytes) := by
      have := growslice_fits (need := xs.length + s.size) (old := c) (bytes := inf.bytes) (by omega) (by rw [g6]; exact hsz)
      omega
    have hrun : (Builtin.append_ #[t, u] ty #[.slice (some ⟨b, 0, none⟩) xs.length c, .string s]).run P w =
      .ok (.slice (some ⟨w.heap.size, 0, none⟩) (xs.length + s.size) (grownCap w (xs.length + s.size) c e))
        (w.drew.alloc (.cells ((xs.map Extern.Stop.cell).toArray ++ (s.data.toList.map Extern.Stop.cell).toArray ++ Builtin.zeroCells zv.cells (grownCap w (xs.length + s.size) c e - (xs.length + s.size))) e)) := by
      simp [Builtin.append_, run_underlying ht, run_underlying hu, sizeOf, typeInfo, zeroValue, g1, g3, Builtin.lenOf, hroom, h63', h48', Question.forced, hfo, hfc, newRow, grownCap]
      congr 2
      apply Array.ext'
      simp [List.append_assoc]
    have hge := grownCap_ge w (xs.length + s.size) c e
    refine ⟨⟨some ⟨w.heap.size, 0, none⟩, grownCap w (xs.length + s.size) c e, (Builtin.zeroCells zv.cells (grownCap w (xs.length + s.size) c e - (xs.length + s.size))).toList⟩,
      w.drew.alloc (.cells ((xs.map Extern.Stop.cell).toArray ++ (s.data.toList.map Extern.Stop.cell).toArray ++ Builtin.zeroCells zv.cells (grownCap w (xs.length + s.size) c e - (xs.length + s.size))) e), .inr ⟨_, _, _, rfl, hge, ?_⟩, ?_, ?_⟩
    · rw [hzc]; omega
    · simp only [Sem.run_bind, hrun, Result.andThen_ok, Sem.run_pure]
    · have h3 := SatI.setNew (w := w.drew) (Sat.drawn hsat (w.drawn + 1)) hil (.cells ((xs.map Extern.Stop.cell).toArray ++ (s.data.toList.map Extern.Stop.cell).toArray ++ Builtin.zeroCells zv.cells (grownCap w (xs.length + s.size) c e - (xs.length + s.size))) e)
      have e2 : SD.blk e f ⟨some ⟨w.heap.size, 0, none⟩, grownCap w (xs.length + s.size) c e, (Builtin.zeroCells zv.cells (grownCap w (xs.length + s.size) c e - (xs.length + s.size))).toList⟩ (xs ++ s.data.toList) =
          [(w.heap.size, .cells ((xs.map Extern.Stop.cell).toArray ++ (s.data.toList.map Extern.Stop.cell).toArray ++ Builtin.zeroCells zv.cells (grownCap w (xs.length + s.size) c e - (xs.length + s.size))) e)] := by
        simp only [SD.blk, harr]
        congr 3
        apply Array.ext'; simp
      simp only [e2]; exact h3
end
end Go.Sx
