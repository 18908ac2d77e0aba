/- Laws on arrays of bytes: whole loads and stores, copy, comparison, the bytes of a slice as a string. -/
import Derived.Test.YtcobccdeocihbaaSv
import Derived.Stop.BytesEq
import Derived.Laws.BytesString
set_option linter.unusedVariables false
set_option linter.unusedSimpArgs false
namespace Go.Sx
open Go.RowKit
open Extern.Stop (cell)
section
variable {P : Program} {W : World} {base : List Blk} {its : Items}
theorem oneC_cell (b : UInt8) : oneC (cell b) = true := rfl
/-- Two arrays of bytes differ. -/
theorem runArrNe {T e n : Nat} {o1 o2 : Operand} (xs ys : List UInt8) (hT : P.underlying T = some (.array n e)) (he : P.underlying e = some (.int .u8)) (hsz : (P.info? e).map (·.size) = some 1) (hg : P.eqGuardType P.depth T = false)
    (hx : xs.length = n) (hy : ys.length = n) {a b : Array Value} (ha : a = (xs.map cell).toArray) (hb : b = (ys.map cell).toArray) :
    RunR P W base its (do pure (Next.value (← (do eqGuard .neq T o1 o2 (.agg a) (.agg b); binOp .neq T (.agg a) (.agg b))))) (.value (.bool (!(xs == ys)))) := by
  intro _ w _
  subst ha; subst hb
  obtain ⟨inf, h1, h2⟩ := Option.map_eq_some_iff.1 hsz
  have h3 := run_equalIn_bytes w 9998 T e n hT he (fun w => by simp [sizeOf, typeInfo, h1, h2]) xs ys hx hy
  have h4 : (binOp .neq T (.agg (xs.map cell).toArray) (.agg (ys.map cell).toArray)).run P w = .ok (.bool (!(xs == ys))) w := by
    simp only [binOp]
    simp only [Op.equal, Op.maxDepth, Sem.run_bind, h3, Result.andThen_ok, Sem.run_pure]
  simp only [Sem.run_bind, run_eqGuard_agg w .neq T o1 o2 _ _ hg, Result.andThen_ok, h4, Sem.run_pure]
theorem oneC_cell' {v : Value} (h : oneC v = true) : v.oneCell' = true := by cases v <;> first | rfl | (simp [oneC] at h)
theorem flatMap_setAll {α : Type} {f : α → List Value} {k : Nat} (hk : ∀ x, (f x).length = k) : ∀ {xs : List α} {n : Nat} (y : α) (rest : List Value), n < xs.length →
    (xs.flatMap f ++ rest).take (n * k) ++ f y ++ (xs.flatMap f ++ rest).drop (n * k + k) = (xs.set n y).flatMap f ++ rest
  | [], n, y, rest, h => by simp at h
  | x :: xs, 0, y, rest, h => by
    have e1 : (f x ++ (xs.flatMap f ++ rest)).drop k = xs.flatMap f ++ rest := by rw [← hk x]; exact List.drop_left
    simp [List.append_assoc, e1]
  | x :: xs, n + 1, y, rest, h => by
    have ih := flatMap_setAll hk (xs := xs) (n := n) y rest (by simpa using h)
    have h1 : ∀ (m : Nat) (R : List Value), (f x ++ R).take (k + m) = f x ++ R.take m := by
      intro m R
      rw [List.take_append, hk, show k + m - k = m by omega, List.take_of_length_le (by rw [hk]; omega)]
    have h2 : ∀ (m : Nat) (R : List Value), (f x ++ R).drop (k + m) = R.drop m := by
      intro m R
      rw [List.drop_append, hk, show k + m - k = m by omega, List.drop_of_length_le (by rw [hk]; omega), List.nil_append]
    have e1 : (n + 1) * k = k + n * k := by rw [Nat.add_mul]; omega
    rw [List.flatMap_cons, List.set_cons_succ, List.flatMap_cons, List.append_assoc, List.append_assoc (f x), e1, show k + n * k + k = k + (n * k + k) by omega, h1, h2]
    simp only [List.append_assoc] at ih ⊢
    rw [ih]
/-- A store of a whole element. -/
theorem runStoreS {α : Type} {f : α → List Value} {k : Nat} (hk : ∀ x, (f x).length = k) {xs : List α} {rest : List Value} {T b i j : Nat} {T' : TypeId} {n : Nat} {x : α} (y : α) {v : Array Value}
    (hb : (its[i]?).bind (·[j]?) = some (b, .cells (arr f xs rest) T' (0, 0))) (hx : xs[n]? = some x) (hv : v = (f y).toArray) (h1 : ∀ u ∈ f y, oneC u = true) (hT : (P.info? T).map (·.size) = some k) :
    RunX P W base its (do Instr.storeAt T (.pointer (some ⟨b, n * k, none⟩)) (.agg v); pure Next.skip) (fun _ : Unit => .skip) (fun _ => setBlk its i j (b, .cells (arr f (xs.set n y) rest) T' (0, 0))) (fun _ => True) := by
  intro hbase w hs
  subst hv
  have hh : w.heap[b]? = some (.cells (arr f xs rest) T' (0, 0)) := hs.at hbase (ij := (i + 1, j)) hb
  obtain ⟨inf, h3, h4⟩ := Option.map_eq_some_iff.1 hT
  have hlen := (List.getElem?_eq_some_iff.1 hx).1
  have hfit : n * k + 0 + (f y).length ≤ (arr f xs rest).size := by
    rw [arr_size hk, hk, Nat.add_zero]
    calc n * k + k = (n + 1) * k := by rw [Nat.add_mul]; omega
      _ ≤ xs.length * k := Nat.mul_le_mul_right _ hlen
      _ ≤ xs.length * k + rest.length := by omega
  have hst := run_storeCells_at P b (n * k) T' (f y) 0 (arr f xs rest) w hh hfit (fun u hu => oneC_cell' (h1 u hu))
  simp only [Nat.add_zero] at hst
  have hnew : ((arr f xs rest).toList.take (n * k) ++ f y ++ (arr f xs rest).toList.drop (n * k + (f y).length)).toArray = arr f (xs.set n y) rest := by
    rw [hk]; simp only [arr]; rw [flatMap_setAll hk y rest hlen]
  rw [hnew] at hst
  refine ⟨(), w.setRow b (arr f (xs.set n y) rest), trivial, ?_, ?_⟩
  · have hcells : (Value.agg (f y).toArray).cells = (f y).toArray := rfl
    simp [Instr.storeAt, Instr.sureAddr, storeVar, sizeOf, typeInfo, h3, h4, hcells, hk, hst]
  · refine hs.set hb ⟨rfl, rfl, rfl, by simp [World.setRow]⟩ (setRow_heap w b _ _ T' (0, 0) hh) (fun q hq => setRow_other w b q _ hq)
/-- a[l:h] behind a pointer to an array of one-cell elements. -/
theorem runSliceArr {T E n b o : Nat} {ik ik2 : IntKind} (l h : Nat) (hT : P.underlying T = some (.array n E)) (hE : (P.info? E).map (·.size) = some 1) (hl : l ≤ h) (hh : h ≤ n) :
    RunR P W base its (do pure (Next.value (← Instr.sliceAt T (.pointer (some ⟨b, o, none⟩)) (some (.int ik (l : Int))) (some (.int ik2 (h : Int))) none))) (.value (.slice (some ⟨b, if n = l then o else o + l, none⟩) (h - l) (n - l))) := by
  intro _ w _
  obtain ⟨inf, h1, h2⟩ := Option.map_eq_some_iff.1 hE
  have hadd : (⟨b, o, none⟩ : Addr).add l = ⟨b, o + l, none⟩ := by unfold Addr.add; split <;> simp_all
  have hif : (if n = l then (⟨b, o, none⟩ : Addr) else (⟨b, o, none⟩ : Addr).add l) = ⟨b, if n = l then o else o + l, none⟩ := by rw [hadd]; split <;> rfl
  simp only [Instr.sliceAt, Instr.sliceBounds, Instr.sliceBound, asIntOf, pure_bind, Sem.run_bind, run_underlying hT, Result.andThen_ok, Instr.sureAddr, Sem.run_pure, sizeOf, typeInfo, program, Sem.run, h1]
  rw [if_pos ⟨by omega, by omega⟩]
  simp only [Sem.run_bind, Sem.run_pure, Result.andThen_ok, Int.toNat_natCast, Option.isSome_none, Bool.false_eq_true, if_false]
  rw [if_pos ⟨by omega, by omega⟩]
  simp only [Sem.run_bind, Sem.run_pure, Result.andThen_ok, Int.toNat_natCast, h2, Sem.run, h1]
  simp [h2, hif]
/-- Bytes written over others. -/
def wr (l : List UInt8) (o : Nat) (d : List UInt8) : List UInt8 := l.take o ++ d ++ l.drop (o + d.length)
theorem wr_len {l : List UInt8} {o : Nat} {d : List UInt8} (h : o + d.length ≤ l.length) : (wr l o d).length = l.length := by
  simp only [wr, List.length_append, List.length_take, List.length_drop]; omega
theorem wr_nil (l : List UInt8) (o : Nat) : wr l o [] = l := by simp [wr]
theorem flatMap_one {α : Type} {f : α → List Value} {g : α → Value} (h : ∀ x, f x = [g x]) : ∀ (l : List α), l.flatMap f = l.map g
  | [] => rfl
  | x :: l => by rw [List.flatMap_cons, h, flatMap_one h l]; rfl
/-- copy(a[..], d) into an array of bytes. -/
theorem runCopy {f : UInt8 → List Value} (hf1 : ∀ x, f x = [cell x]) {dT sT ty E b o q m i dLen dCap c2 : Nat} {T' : TypeId} {sa : Option Addr} (l d : List UInt8) (hT : P.underlying dT = some (.slice E)) (hE : (P.info? E).map (·.size) = some 1)
    (hi : its[i]? = some [(b, .cells (l.map cell).toArray T')]) (hm : d.length = m) (hq : m = 0 ∨ q = o) (hd : m ≤ dLen) (hl : o + m ≤ l.length)
    (hsrc : BaseOk W base → ∀ w, SatI W w its → m = 0 ∨ ∃ p, sa = some p ∧ ∀ j u, (d.flatMap f)[j]? = some u → w.cell? (p.add j) = some u) :
    RunX P W base its (do pure (Next.value (← Builtin.copy_ #[dT, sT] ty #[.slice (some ⟨b, q, none⟩) dLen dCap, .slice sa m c2]))) (fun _ : Unit => .value (.int .i64 (m : Int)))
      (fun _ => its.set i [(b, .cells ((wr l o d).map cell).toArray T')]) (fun _ => True) := by
  intro hbase w hs
  obtain ⟨inf, g1, g2⟩ := Option.map_eq_some_iff.1 hE
  have hh : w.heap[b]? = some (.cells (l.map cell).toArray T' (0, 0)) := hs.at hbase (ij := (i + 1, 0)) (show blkAt base its (i + 1, 0) = some (b, .cells (l.map cell).toArray T' (0, 0)) by simp [blkAt, hi])
  rcases hsrc hbase w hs with hm0 | ⟨p, rfl, hnews⟩
  · subst hm0
    obtain rfl : d = [] := List.eq_nil_of_length_eq_zero hm
    have hfc : (Builtin.firstCells 1 0 (.slice sa 0 c2)).run P w = .ok #[] w := by cases sa <;> simp [Builtin.firstCells, loadCells, loadCellsFrom]
    refine ⟨(), w, trivial, ?_, ?_⟩
    · simp [Builtin.copy_, run_underlying hT, Builtin.lenOf, sizeOf, typeInfo, g1, g2, hfc, storeCells, goInt]
    · have : its.set i [(b, .cells ((wr l o []).map cell).toArray T')] = its := by
        rw [wr_nil]
        refine List.ext_getElem? (fun j => ?_)
        rw [List.getElem?_set]
        by_cases hj : i = j
        · subst hj; rw [if_pos rfl, if_pos (List.getElem?_eq_some_iff.1 hi).1, hi]
        · rw [if_neg hj]
      show SatI W w (its.set i [(b, .cells ((wr l o []).map cell).toArray T')])
      rw [this]; exact hs
  · rw [flatMap_one hf1] at hnews
    have hf := run_firstCells_some (P := P) w 1 m p m c2 (d.map cell) (by simp [hm]) hnews
    by_cases hm0 : m = 0
    · subst hm0
      obtain rfl : d = [] := List.eq_nil_of_length_eq_zero hm
      refine ⟨(), w, trivial, ?_, ?_⟩
      · simp only [List.map_nil] at hf
        simp [Builtin.copy_, run_underlying hT, Builtin.lenOf, sizeOf, typeInfo, g1, g2, hf, storeCells, goInt]
      · have : its.set i [(b, .cells ((wr l o []).map cell).toArray T')] = its := by
          rw [wr_nil]
          refine List.ext_getElem? (fun j => ?_)
          rw [List.getElem?_set]
          by_cases hj : i = j
          · subst hj; rw [if_pos rfl, if_pos (List.getElem?_eq_some_iff.1 hi).1, hi]
          · rw [if_neg hj]
        show SatI W w (its.set i [(b, .cells ((wr l o []).map cell).toArray T')])
        rw [this]; exact hs
    · obtain rfl : q = o := hq.resolve_left hm0
      have hst := run_storeCells_at P b q T' (d.map cell) 0 (l.map cell).toArray w hh (by simp; omega) (fun u hu => by obtain ⟨x, _, rfl⟩ := List.mem_map.1 hu; rfl)
      simp only [Nat.add_zero] at hst
      have hnew : (((l.map cell).toArray.toList.take q ++ d.map cell ++ (l.map cell).toArray.toList.drop (q + (d.map cell).length)).toArray) = ((wr l q d).map cell).toArray := by
        simp [wr, List.map_take, List.map_drop]
      rw [hnew] at hst
      refine ⟨(), w.setRow b ((wr l q d).map cell).toArray, trivial, ?_, setRow_set hs hi _⟩
      have hmin : Nat.min m dLen = m := Nat.min_eq_left hd
      simp [Builtin.copy_, run_underlying hT, Builtin.lenOf, sizeOf, typeInfo, g1, g2, hmin, hf, hst, goInt]
theorem foldl_push (xs : List UInt8) : ∀ (r : ByteArray), (xs.map fun b => (b.toNat : Int)).foldl (fun r n => r.push (UInt8.ofNat n.toNat)) r = ⟨r.data ++ xs.toArray⟩ := by
  induction xs with
  | nil => intro r; simp
  | cons x xs ih =>
    intro r
    simp only [List.map_cons, List.foldl_cons, ih]
    obtain ⟨r⟩ := r
    congr 1
    apply Array.ext'
    simp [ByteArray.push]
/-- string(b) -/
theorem runBytesStr {f : UInt8 → List Value} (hf1 : ∀ x, f x = [cell x]) {src dst e n i : Nat} {T' : TypeId} (d : SD) (xs : List UInt8) (hs0 : P.underlying src = some (.slice e)) (hd0 : P.underlying dst = some .string) (he : P.underlying e = some (.int .u8))
    (hi : its[i]? = some (d.blk T' f xs)) (hn : xs.length = n) (hd : d.ok 1 n) :
    RunR P W base its (do pure (Next.value (← convert src dst (.slice d.a n d.cap)))) (.value (.string ⟨xs.toArray⟩)) := by
  intro hbase w hs
  subst hn
  rcases hd with ⟨rfl, hx⟩ | ⟨b, c, r, rfl, hc, hr⟩
  · obtain rfl : xs = [] := List.eq_nil_of_length_eq_zero hx
    have h0 : (convert src dst (.slice none 0 0)).run P w = .ok (.string ⟨#[]⟩) w := by
      rw [run_convert_bytes_string w src dst e none 0 0 hs0 he hd0]; simp [Conv.bytesToString]; rfl
    show (do pure (Next.value (← convert src dst (.slice none 0 0))) : Sem Next).run P w = _
    rw [Sem.run_bind, h0]; rfl
  · have hh : w.heap[b]? = some (.cells (arr f xs r) T' (0, 0)) := hs.at hbase (ij := (i + 1, 0)) (show blkAt base its (i + 1, 0) = some (b, .cells (arr f xs r) T' (0, 0)) by simp [blkAt, hi, SD.blk])
    have hload : (loadCells ⟨b, 0, none⟩ xs.length).run P w = .ok ((xs.map fun b => (b.toNat : Int)).map (Value.int .u8)).toArray w := by
      have h1 := run_loadCellsFrom (P := P) (o := 0) hh (xs.map cell) 0 #[] (fun t u ht => by
        simp only [arr, List.getElem?_toArray, flatMap_one hf1, Nat.zero_add]
        rw [List.getElem?_append_left (List.getElem?_eq_some_iff.1 ht).1]; exact ht)
      have h2 : ((xs.map fun b => (b.toNat : Int)).map (Value.int .u8)) = xs.map cell := by rw [List.map_map]; rfl
      rw [h2]
      simpa [loadCells] using h1
    have h0 : (convert src dst (.slice (some ⟨b, 0, none⟩) xs.length c)).run P w = .ok (.string ⟨xs.toArray⟩) w := by
      rw [run_convert_bytes_string w src dst e _ _ _ hs0 he hd0, run_bytesToString w _ _ _ _ hload, foldl_push]; simp
    show (do pure (Next.value (← convert src dst (.slice (some ⟨b, 0, none⟩) xs.length c))) : Sem Next).run P w = _
    rw [Sem.run_bind, h0]; rfl
/-- The source of an append: a part of an array of bytes. -/
theorem srcL {f : UInt8 → List Value} (hf1 : ∀ x, f x = [cell x]) {b o q m : Nat} {T' : TypeId} (l : List UInt8) (i : Nat) (hi : its[i]? = some [(b, .cells (l.map cell).toArray T')]) (hq : m = 0 ∨ q = o) :
    BaseOk W base → ∀ w, SatI W w its → m = 0 ∨ ∃ p, some (⟨b, q, none⟩ : Addr) = some p ∧ ∀ j u, (((l.drop o).take m).flatMap f)[j]? = some u → w.cell? (p.add j) = some u := by
  intro hb w hs
  rcases hq with hq | rfl
  · exact .inl hq
  refine .inr ⟨⟨b, q, none⟩, rfl, fun j u hu => ?_⟩
  have hh : w.heap[b]? = some (.cells (l.map cell).toArray T' (0, 0)) := hs.at hb (ij := (i + 1, 0)) (show blkAt base its (i + 1, 0) = some (b, .cells (l.map cell).toArray T' (0, 0)) by simp [blkAt, hi])
  have hadd : (⟨b, q, none⟩ : Addr).add j = ⟨b, q + j, none⟩ := by unfold Addr.add; split <;> simp_all
  rw [hadd]
  refine cell_of hh ?_
  rw [flatMap_one hf1, List.getElem?_map] at hu
  have hj := List.getElem?_take (l := l.drop q) (i := m) (j := j)
  simp only [List.getElem?_toArray, List.getElem?_map]
  rw [hj] at hu
  split at hu
  · rw [List.getElem?_drop] at hu; exact hu
  · simp at hu
/-- A store of a whole block. -/
theorem runStoreAll {T b i : Nat} {T' : TypeId} {c : Array Value} (vs : List Value) (hi : its[i]? = some [(b, .cells c T')]) (hc : c.size = vs.length) (h1 : ∀ u ∈ vs, oneC u = true) (hT : (P.info? T).map (·.size) = some vs.length) :
    RunX P W base its (do Instr.storeAt T (.pointer (some ⟨b, 0, none⟩)) (.agg vs.toArray); pure Next.skip) (fun _ : Unit => .skip) (fun _ => its.set i [(b, .cells vs.toArray T')]) (fun _ => True) := by
  intro hbase w hs
  have hh : w.heap[b]? = some (.cells c T' (0, 0)) := hs.at hbase (ij := (i + 1, 0)) (show blkAt base its (i + 1, 0) = some (b, .cells c T' (0, 0)) by simp [blkAt, hi])
  obtain ⟨inf, h3, h4⟩ := Option.map_eq_some_iff.1 hT
  have hst := run_storeCells_at P b 0 T' vs 0 c w hh (by omega) (fun u hu => oneC_cell' (h1 u hu))
  have hnew : (c.toList.take (0 + 0) ++ vs ++ c.toList.drop (0 + 0 + vs.length)).toArray = vs.toArray := by
    rw [List.drop_of_length_le (by simp; omega)]; simp
  rw [hnew] at hst
  refine ⟨(), w.setRow b vs.toArray, trivial, ?_, setRow_set hs hi _⟩
  have hcells : (Value.agg vs.toArray).cells = vs.toArray := rfl
  simp [Instr.storeAt, Instr.sureAddr, storeVar, sizeOf, typeInfo, h3, h4, hcells, hst]
/-- a[l:] behind a pointer to an array of one-cell elements. -/
theorem runSliceArrLo {T E n b o : Nat} {ik : IntKind} (l : Nat) (hT : P.underlying T = some (.array n E)) (hE : (P.info? E).map (·.size) = some 1) (hl : l ≤ n) :
    RunR P W base its (do pure (Next.value (← Instr.sliceAt T (.pointer (some ⟨b, o, none⟩)) (some (.int ik (l : Int))) none none))) (.value (.slice (some ⟨b, if n = l then o else o + l, none⟩) (n - l) (n - l))) := by
  intro _ w _
  obtain ⟨inf, h1, h2⟩ := Option.map_eq_some_iff.1 hE
  have hadd : (⟨b, o, none⟩ : Addr).add l = ⟨b, o + l, none⟩ := by unfold Addr.add; split <;> simp_all
  have hif : (if n = l then (⟨b, o, none⟩ : Addr) else (⟨b, o, none⟩ : Addr).add l) = ⟨b, if n = l then o else o + l, none⟩ := by rw [hadd]; split <;> rfl
  simp only [Instr.sliceAt, Instr.sliceBounds, Instr.sliceBound, asIntOf, pure_bind, Sem.run_bind, run_underlying hT, Result.andThen_ok, Instr.sureAddr, Sem.run_pure, sizeOf, typeInfo, program, Sem.run, h1]
  rw [if_pos ⟨by omega, by omega⟩]
  simp only [Sem.run_pure, Result.andThen_ok, Int.toNat_natCast, Option.isSome_none, Bool.false_eq_true, if_false]
  simp [h1, h2, hif]
theorem wfPick {n : Nat} {ds : List Deferred} {Q : Exit → Act → World → Prop} {x : Exit} {e : Env} {its' : Items} (idx : List Nat) (hn : nodupB idx = true) (hp : Sx.pick idx its = some its') (h : WF W base n ds Q x e its') : WF W base n ds Q x e its :=
  fun hb a w hs hi => h hb a w hs (hi.pick idx hn hp)
end
end Go.Sx
