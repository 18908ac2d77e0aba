/- Laws on a slice that begins behind dead cells: append, head and tail. -/
import Derived.Test.YtcobccdeocihbaaSm
set_option linter.unusedVariables false
set_option linter.unusedSimpArgs false
namespace Go.Sx
/-! A slice of the call's own that begins behind dead cells. -/
structure SE where
  a : Option Addr
  cap : Nat
  dead : List Value
  rest : List Value
def arrE {α : Type} (f : α → List Value) (dead : List Value) (xs : List α) (rest : List Value) : Array Value := (dead ++ (xs.flatMap f ++ rest)).toArray
def SE.blk {α : Type} (T : TypeId) (f : α → List Value) (d : SE) (xs : List α) : List Blk := match d.a with | none => [] | some p => [(p.block, .cells (arrE f d.dead xs d.rest) T)]
def SE.ok (k : Nat) (d : SE) (n : Nat) : Prop := (d = ⟨none, 0, [], []⟩ ∧ n = 0) ∨ ∃ b c dd r, d = ⟨some ⟨b, dd.length, none⟩, c, dd, r⟩ ∧ n ≤ c ∧ c * k ≤ n * k + r.length
theorem SE.ok_nil (k : Nat) : SE.ok k ⟨none, 0, [], []⟩ 0 := .inl ⟨rfl, rfl⟩
theorem SE.ok.some {k : Nat} {d : SE} {n : Nat} (h : d.ok k n) (hn : 0 < n) : ∃ b c dd r, d = ⟨some ⟨b, dd.length, none⟩, c, dd, r⟩ ∧ n ≤ c ∧ c * k ≤ n * k + r.length := by
  rcases h with ⟨_, h⟩ | h
  · omega
  · exact h
theorem SE.ok.cap {k : Nat} {d : SE} {n : Nat} (h : d.ok k n) : n ≤ d.cap := by
  rcases h with ⟨rfl, h⟩ | ⟨b, c, dd, r, rfl, h, _⟩
  · simp [h]
  · exact h
section
variable {P : Program} {W : World} {base : List Blk} {its : Items}
theorem run_append_roomO (w : World) (t ty e : TypeId) (i : TypeInfo) (ht : P.underlying t = some (.slice e)) (hi : P.info? e = some i)
    (g o sLen sCap : Nat) (cur : Array Value) (hg : w.heap[g]? = some (.cells cur e (0, 0)))
    (a : Addr) (m c : Nat) (news : List Value) (hl : news.length = m * i.size) (hnews : ∀ j u, news[j]? = some u → w.cell? (a.add j) = some u) (h1 : ∀ u ∈ news, u.oneCell' = true)
    (hroom : sLen + m ≤ sCap) (hfit : o + sLen * i.size + news.length ≤ cur.size) :
    (Builtin.append_ #[t, t] ty #[.slice (some ⟨g, o, none⟩) sLen sCap, .slice (some a) m c]).run P w =
      .ok (.slice (some ⟨g, o, none⟩) (sLen + m) sCap) (w.setRow g (cur.toList.take (o + sLen * i.size) ++ news ++ cur.toList.drop (o + sLen * i.size + news.length)).toArray) := by
  have hf := run_firstCells_some (P := P) w i.size m a m c news hl hnews
  have hst := run_storeCells_at P g (o + sLen * i.size) e news 0 cur w hg (by simpa using hfit) h1
  simp only [Nat.add_zero] at hst
  simp [Builtin.append_, run_underlying ht, sizeOf, typeInfo, hi, Builtin.lenOf, hroom, hf, Addr.add_lit, hst]
theorem runAppendE1 {α : Type} {f : α → List Value} {k : Nat} (hk : ∀ x, (f x).length = k) {t ty e by_ : Nat} {z : List Value} (d : SE) (xs : List α) (y : α) (n : Nat) (i j : Nat) {b2 : Nat} {cs : Array Value} {T2 : TypeId}
    (ht : P.underlying t = some (.slice e)) (he : (P.info? e).bind (fun i => i.zero.map fun z => (i.size, i.bytes, z.cells.toList)) = some (k, by_, z)) (hz : z.length = k) (hk0 : Nat.blt 0 k = true)
    (hi : its[i]? = some (d.blk e f xs)) (hn : xs.length = n) (hd : d.ok k n) (hj : its[j]? = some [(b2, .cells cs T2 (0, 0))]) (hs : cs = (f y).toArray)
    (h1 : (f y).all oneC = true) (hsz : (n + 1) * by_ ≤ 140737488355328) (h63 : n + 1 ≤ 9223372036854775807) :
    RunX P W base its (do pure (Next.value (← Builtin.append_ #[t, t] ty #[.slice d.a n d.cap, .slice (some ⟨b2, 0, none⟩) 1 1]))) (fun d' : SE => .value (.slice d'.a (n + 1) d'.cap))
      (fun d' => its.set i (d'.blk e f (xs ++ [y]))) (fun d' => d'.ok k (n + 1)) := by
  intro hbase w hsat
  obtain ⟨inf, g1, g2⟩ := Option.bind_eq_some_iff.1 he
  obtain ⟨zv, g3, g4⟩ := Option.map_eq_some_iff.1 g2
  simp only [Prod.mk.injEq] at g4
  obtain ⟨g5, g6, g7⟩ := g4
  rcases hd with ⟨rfl, hx0⟩ | ⟨b, c, dd, r, rfl, hc, hr⟩
  · subst hx0
    have hx : xs = [] := List.eq_nil_of_length_eq_zero hn
    subst hx
    obtain ⟨d1, w1, o1, o2, o3⟩ := runAppend1 (P := P) (W := W) (base := base) (its := its) hk (t := t) (ty := ty) (e := e) (by_ := by_) (z := z) ⟨none, 0, []⟩ [] y 0 i j (b2 := b2) (cs := cs) (T2 := T2) ht he hz hk0 hi rfl (SD.ok_nil k) hj hs h1 hsz h63 hbase w hsat
    refine ⟨⟨d1.a, d1.cap, [], d1.rest⟩, w1, ?_, o2, ?_⟩
    · obtain ⟨b, c, r, rfl, h2, h3⟩ := SD.ok.some o1 (by omega)
      exact .inr ⟨b, c, [], r, rfl, h2, by omega⟩
    · have : SE.blk e f ⟨d1.a, d1.cap, [], d1.rest⟩ ([] ++ [y]) = SD.blk e f d1 ([] ++ [y]) := by
        unfold SE.blk SD.blk
        cases d1.a <;> simp [arrE, arr]
      show SatI W w1 (its.set i (SE.blk e f ⟨d1.a, d1.cap, [], d1.rest⟩ ([] ++ [y])))
      rw [this]; exact o3
  · have hil : i < its.length := (List.getElem?_eq_some_iff.1 hi).1
    have hi' : its[i]? = some [(b, .cells (arrE f dd xs r) e (0, 0))] := hi
    have hh : w.heap[b]? = some (.cells (arrE f dd xs r) e (0, 0)) := hsat.at hbase (ij := (i + 1, 0)) (by simp only [blkAt, hi']; rfl)
    have hh2 : w.heap[b2]? = some (.cells cs T2 (0, 0)) := hsat.at hbase (ij := (j + 1, 0)) (by simp only [blkAt, hj]; rfl)
    have hxl : (xs.flatMap f).length = n * k := by rw [flatMap_len hk, hn]
    have hyl : (f y).length = 1 * inf.size := by rw [hk, g5, Nat.one_mul]
    have hone : ∀ u ∈ f y, u.oneCell' = true := by
      intro u hu
      have := List.all_eq_true.1 h1 u hu
      cases u <;> first | rfl | (simp [oneC] at this)
    have hnews : ∀ q u, (f y)[q]? = some u → w.cell? ((⟨b2, 0, none⟩ : Addr).add q) = some u := by
      intro q u hq
      have hadd : (⟨b2, 0, none⟩ : Addr).add q = ⟨b2, q, none⟩ := by unfold Addr.add; split <;> simp_all
      rw [hadd]
      refine cell_of hh2 ?_
      rw [hs]; simpa using hq
    have hsize : (arrE f dd xs r).size = dd.length + (n * k + r.length) := by simp only [arrE, List.size_toArray, List.length_append, hxl]
    by_cases hroom : n + 1 ≤ c
    · have hkr : k ≤ r.length := by
        have : (n + 1) * k ≤ c * k := Nat.mul_le_mul_right _ hroom
        rw [Nat.add_mul, Nat.one_mul] at this; omega
      have hrun := run_append_roomO (P := P) w t ty e inf ht g1 b dd.length n c (arrE f dd xs r) hh ⟨b2, 0, none⟩ 1 1 (f y) hyl hnews hone hroom (by rw [hsize, g5, hk]; omega)
      have hnew : ((arrE f dd xs r).toList.take (dd.length + n * inf.size) ++ f y ++ (arrE f dd xs r).toList.drop (dd.length + n * inf.size + (f y).length)).toArray = arrE f dd (xs ++ [y]) (r.drop k) := by
        simp only [arrE, g5, hk]
        congr 1
        rw [← List.append_assoc, List.take_left' (by rw [List.length_append, hxl]), List.drop_append, List.drop_of_length_le (by rw [List.length_append, hxl]; omega), List.nil_append, List.length_append, hxl, show dd.length + n * k + k - (dd.length + n * k) = k by omega]
        simp
      rw [hnew] at hrun
      refine ⟨⟨some ⟨b, dd.length, none⟩, c, dd, r.drop k⟩, w.setRow b (arrE f dd (xs ++ [y]) (r.drop k)), .inr ⟨_, _, _, _, rfl, hroom, ?_⟩, ?_, setRow_set hsat hi' _⟩
      · rw [List.length_drop, Nat.add_mul, Nat.one_mul]; omega
      · simp only [Sem.run_bind, hrun, Result.andThen_ok, Sem.run_pure]
    · have holds : ∀ q u, (xs.flatMap f)[q]? = some u → w.cell? ((⟨b, dd.length, none⟩ : Addr).add q) = some u := by
        intro q u hq
        have hadd : (⟨b, dd.length, none⟩ : Addr).add q = ⟨b, dd.length + q, none⟩ := by unfold Addr.add; split <;> simp_all
        rw [hadd]
        refine cell_of hh ?_
        simp only [arrE, List.getElem?_toArray]
        rw [List.getElem?_append_right (by omega), show dd.length + q - dd.length = q by omega, List.getElem?_append_left (List.getElem?_eq_some_iff.1 hq).1]; exact hq
      have hzl : zv.cells.size = k := by rw [← hz, ← g7]; simp
      have hzc : ∀ j, (Builtin.zeroCells zv.cells j).toList.length = j * k := by intro j; rw [Array.length_toList, size_zeroCells, hzl]
      have hk1 : 0 < k := by simpa [Nat.blt_eq] using hk0
      have hrun := run_append_grow (P := P) w t ty e inf zv ht g1 g3 ⟨b, dd.length, none⟩ n c (xs.flatMap f) (by rw [hxl, g5]) holds ⟨b2, 0, none⟩ 1 1 (f y) hyl hnews (by omega) (by omega) (growslice_fits (by omega) (by rw [g6]; exact hsz))
      have hge := grownCap_ge w (n + 1) c e
      refine ⟨⟨some ⟨w.heap.size, 0, none⟩, grownCap w (n + 1) c e, [], (Builtin.zeroCells zv.cells (grownCap w (n + 1) c e - (n + 1))).toList⟩,
        w.drew.alloc (.cells ((xs.flatMap f).toArray ++ (f y).toArray ++ Builtin.zeroCells zv.cells (grownCap w (n + 1) c e - (n + 1))) e), .inr ⟨_, _, [], _, rfl, hge, ?_⟩, ?_, ?_⟩
      · rw [hzc, ← Nat.add_mul]; refine Nat.mul_le_mul_right _ (by omega)
      · simp only [Sem.run_bind, hrun, Result.andThen_ok, Sem.run_pure]
      · have h3 := SatI.setNew (w := w.drew) (Sat.drawn hsat (w.drawn + 1)) hil (.cells ((xs.flatMap f).toArray ++ (f y).toArray ++ Builtin.zeroCells zv.cells (grownCap w (n + 1) c e - (n + 1))) e)
        have e2 : SE.blk e f ⟨some ⟨w.heap.size, 0, none⟩, grownCap w (n + 1) c e, [], (Builtin.zeroCells zv.cells (grownCap w (n + 1) c e - (n + 1))).toList⟩ (xs ++ [y]) =
            [(w.heap.size, .cells ((xs.flatMap f).toArray ++ (f y).toArray ++ Builtin.zeroCells zv.cells (grownCap w (n + 1) c e - (n + 1))) e)] := by
          simp only [SE.blk, arrE]
          congr 3
          apply Array.ext'; simp
        simp only [e2]; exact h3
/-- x[1:] of it. -/
theorem runTailE {α : Type} {f : α → List Value} {k : Nat} (hk : ∀ x, (f x).length = k) {T E : TypeId} (d : SE) (x : α) (ys : List α) (n i : Nat) {ik : IntKind} (hT : P.underlying T = some (.slice E)) (hE : (P.info? E).map (·.size) = some k)
    (hi : its[i]? = some (d.blk E f (x :: ys))) (hn : ys.length = n) (hd : d.ok k (n + 1)) :
    RunX P W base its (do pure (Next.value (← Instr.sliceAt T (.slice d.a (n + 1) d.cap) (some (.int ik 1)) none none))) (fun d' : SE => .value (.slice d'.a n d'.cap)) (fun d' => its.set i (d'.blk E f ys)) (fun d' => d'.ok k n) := by
  intro hbase w hsat
  obtain ⟨b, c, dd, r, rfl, hc, hr⟩ := hd.some (by omega)
  have hrun := runSliceLoG (P := P) (W := W) (base := base) (its := its) (T := T) (E := E) (n := n + 1) (c := c) (b := b) (o := dd.length) (ik := ik) 1 hT hE (by omega) hc hbase w hsat
  have hset : ∀ l, its[i]? = some l → its.set i l = its := by
    intro l hl
    refine List.ext_getElem? (fun q => ?_)
    rw [List.getElem?_set]
    by_cases hq : i = q
    · subst hq; rw [if_pos rfl, if_pos (List.getElem?_eq_some_iff.1 hl).1, hl]
    · rw [if_neg hq]
  by_cases h1 : c = 1
  · have hn0 : n = 0 := by omega
    subst hn0
    have hy : ys = [] := List.eq_nil_of_length_eq_zero hn
    subst hy
    refine ⟨⟨some ⟨b, dd.length, none⟩, 0, dd, f x ++ r⟩, w, .inr ⟨_, _, _, _, rfl, Nat.le_refl _, by omega⟩, ?_, ?_⟩
    · rw [if_pos h1] at hrun
      subst h1
      exact hrun
    · have e : SE.blk E f ⟨some ⟨b, dd.length, none⟩, 0, dd, f x ++ r⟩ [] = SE.blk E f ⟨some ⟨b, dd.length, none⟩, c, dd, r⟩ [x] := by
        simp only [SE.blk, arrE]; simp
      show SatI W w (its.set i (SE.blk E f ⟨some ⟨b, dd.length, none⟩, 0, dd, f x ++ r⟩ []))
      rw [e, hset _ hi]; exact hsat
  · have hl : (dd ++ f x).length = dd.length + 1 * k := by rw [List.length_append, hk, Nat.one_mul]
    refine ⟨⟨some ⟨b, (dd ++ f x).length, none⟩, c - 1, dd ++ f x, r⟩, w, .inr ⟨_, _, _, _, rfl, by omega, ?_⟩, ?_, ?_⟩
    · rw [Nat.sub_mul, Nat.one_mul]
      rw [Nat.add_mul, Nat.one_mul] at hr; omega
    · rw [if_neg h1] at hrun
      rw [hl]; exact hrun
    · have e : SE.blk E f ⟨some ⟨b, (dd ++ f x).length, none⟩, c - 1, dd ++ f x, r⟩ ys = SE.blk E f ⟨some ⟨b, dd.length, none⟩, c, dd, r⟩ (x :: ys) := by
        simp only [SE.blk, arrE]; simp
      show SatI W w (its.set i (SE.blk E f ⟨some ⟨b, (dd ++ f x).length, none⟩, c - 1, dd ++ f x, r⟩ ys))
      rw [e, hset _ hi]; exact hsat
/-- x[0], a whole element. -/
theorem runHeadE {α : Type} {f : α → List Value} {k : Nat} (hk : ∀ x, (f x).length = k) {T T' : TypeId} (b : Nat) (dd : List Value) (x : α) (ys : List α) (r : List Value) (i : Nat) (hi : its[i]? = some [(b, .cells (arrE f dd (x :: ys) r) T' (0, 0))])
    (hT : (P.underlying T).map (fun d => match d with | .struct _ | .array _ _ => true | _ => false) = some true) (hn : (P.info? T).map (·.size) = some k) :
    RunR P W base its (do pure (Next.value (← Instr.loadAt T (.pointer (some ⟨b, dd.length + 0 * k, none⟩))))) (.value (.agg (f x).toArray)) := by
  refine runLoadA (f x) (i + 1, 0) (by simp only [blkAt, hi]; rfl) (fun t u h => ?_) hT (by rw [hn, hk])
  simp only [arrE, List.getElem?_toArray, List.flatMap_cons, Nat.zero_mul, Nat.add_zero]
  rw [List.getElem?_append_right (by omega), show dd.length + t - dd.length = t by omega, List.append_assoc, List.getElem?_append_left (List.getElem?_eq_some_iff.1 h).1]; exact h
end
end Go.Sx
