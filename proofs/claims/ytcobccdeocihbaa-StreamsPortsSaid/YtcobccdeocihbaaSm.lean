/- Slice expressions with three indices, an append that has room, clear, and a conversion that marks a row, for the walk calculus. -/
import Derived.Test.YtcobccdeocihbaaSw
set_option linter.unusedVariables false
set_option linter.unusedSimpArgs false
namespace Go.Sx
section
variable {P : Program} {W : World} {base : List Blk} {its : Items}
theorem addr_map0 {a : Option Addr} : a.map (·.add 0) = a := by cases a <;> simp [addr_add0]
/-- x[:h:m] -/
theorem runSliceHM {T E n c : Nat} {a : Option Addr} {ik ik2 : IntKind} (h m : Nat) (hT : P.underlying T = some (.slice E)) (hE : (P.info? E).isSome = true) (hh : h ≤ m) (hm : m ≤ c) :
    RunR P W base its (do pure (Next.value (← Instr.sliceAt T (.slice a n c) none (some (.int ik (h : Int))) (some (.int ik2 (m : Int)))))) (.value (.slice a h m)) := by
  intro _ w _
  obtain ⟨inf, h1⟩ := Option.isSome_iff_exists.1 hE
  have ha : (if m = 0 then a else a.map (·.add 0)) = a := by rw [addr_map0]; split <;> rfl
  simp [Instr.sliceAt, Instr.slice, Instr.sliceBounds, Instr.sliceBound, asIntOf, run_underlying hT, sizeOf, typeInfo, h1, hh, hm, ha]
/-- x[0:h:m] -/
theorem runSliceZHM {T E n c : Nat} {a : Option Addr} {ik0 ik ik2 : IntKind} (h m : Nat) (hT : P.underlying T = some (.slice E)) (hE : (P.info? E).isSome = true) (hh : h ≤ m) (hm : m ≤ c) :
    RunR P W base its (do pure (Next.value (← Instr.sliceAt T (.slice a n c) (some (.int ik0 0)) (some (.int ik (h : Int))) (some (.int ik2 (m : Int)))))) (.value (.slice a h m)) := by
  intro _ w _
  obtain ⟨inf, h1⟩ := Option.isSome_iff_exists.1 hE
  have ha : (if m = 0 then a else a.map (·.add 0)) = a := by rw [addr_map0]; split <;> rfl
  simp [Instr.sliceAt, Instr.slice, Instr.sliceBounds, Instr.sliceBound, asIntOf, run_underlying hT, sizeOf, typeInfo, h1, hh, hm, ha]
/-- x[l:], l at most the length -/
theorem runSliceLoG {T E n c k : Nat} {b o : Nat} {ik : IntKind} (l : Nat) (hT : P.underlying T = some (.slice E)) (hE : (P.info? E).map (·.size) = some k) (hl : l ≤ n) (hn : n ≤ c) :
    RunR P W base its (do pure (Next.value (← Instr.sliceAt T (.slice (some ⟨b, o, none⟩) n c) (some (.int ik (l : Int))) none none))) (.value (.slice (some ⟨b, if c = l then o else o + l * k, none⟩) (n - l) (c - l))) := by
  intro _ w _
  obtain ⟨inf, h1, h2⟩ := Option.map_eq_some_iff.1 hE
  have hadd : (⟨b, o, none⟩ : Addr).add (l * k) = ⟨b, o + l * k, none⟩ := by unfold Addr.add; split <;> simp_all
  have hif : (if c = l then some (⟨b, o, none⟩ : Addr) else some ((⟨b, o, none⟩ : Addr).add (l * k))) = some ⟨b, if c = l then o else o + l * k, none⟩ := by rw [hadd]; split <;> rfl
  simp [Instr.sliceAt, Instr.slice, Instr.sliceBounds, Instr.sliceBound, asIntOf, run_underlying hT, sizeOf, typeInfo, h1, h2, hl, hn, hif]
/-- x[l:h] -/
theorem runSliceLH {T E n c k : Nat} {b o : Nat} {ik ik2 : IntKind} (l h : Nat) (hT : P.underlying T = some (.slice E)) (hE : (P.info? E).map (·.size) = some k) (hl : l ≤ h) (hh : h ≤ c) (hn : l < c) :
    RunR P W base its (do pure (Next.value (← Instr.sliceAt T (.slice (some ⟨b, o, none⟩) n c) (some (.int ik (l : Int))) (some (.int ik2 (h : Int))) none))) (.value (.slice (some ⟨b, o + l * k, none⟩) (h - l) (c - l))) := by
  intro _ w _
  obtain ⟨inf, h1, h2⟩ := Option.map_eq_some_iff.1 hE
  have hc : ¬ c = l := by omega
  have hadd : (⟨b, o, none⟩ : Addr).add (l * k) = ⟨b, o + l * k, none⟩ := by unfold Addr.add; split <;> simp_all
  simp [Instr.sliceAt, Instr.slice, Instr.sliceBounds, Instr.sliceBound, asIntOf, run_underlying hT, sizeOf, typeInfo, h1, h2, hl, hh, hc, hadd]
/-- x[l:h:m] -/
theorem runSliceLHM {T E n c k : Nat} {b o : Nat} {ik ik2 ik3 : IntKind} (l h m : Nat) (hT : P.underlying T = some (.slice E)) (hE : (P.info? E).map (·.size) = some k) (hl : l ≤ h) (hh : h ≤ m) (hm : m ≤ c) (hn : l < m) :
    RunR P W base its (do pure (Next.value (← Instr.sliceAt T (.slice (some ⟨b, o, none⟩) n c) (some (.int ik (l : Int))) (some (.int ik2 (h : Int))) (some (.int ik3 (m : Int)))))) (.value (.slice (some ⟨b, o + l * k, none⟩) (h - l) (m - l))) := by
  intro _ w _
  obtain ⟨inf, h1, h2⟩ := Option.map_eq_some_iff.1 hE
  have hc : ¬ m = l := by omega
  have hadd : (⟨b, o, none⟩ : Addr).add (l * k) = ⟨b, o + l * k, none⟩ := by unfold Addr.add; split <;> simp_all
  simp [Instr.sliceAt, Instr.slice, Instr.sliceBounds, Instr.sliceBound, asIntOf, run_underlying hT, sizeOf, typeInfo, h1, h2, hl, hh, hm, hc, hadd]
/-- An append that has room. -/
theorem runAppendIn {t ty e k : Nat} {b n c c2 m : Nat} {p : Addr} {cur : Array Value} (i : Nat) (news : List Value) (ht : P.underlying t = some (.slice e)) (he : (P.info? e).map (·.size) = some k)
    (hi : its[i]? = some [(b, .cells cur e (0, 0))]) (hsrc : BaseOk W base → ∀ w, SatI W w its → ∀ j u, news[j]? = some u → w.cell? (p.add j) = some u) (h1 : news.all oneC = true) (hl : news.length = m * k) (hroom : n + m ≤ c) (hfit : n * k + m * k ≤ cur.size) :
    RunX P W base its (do pure (Next.value (← Builtin.append_ #[t, t] ty #[.slice (some ⟨b, 0, none⟩) n c, .slice (some p) m c2]))) (fun _ : Unit => .value (.slice (some ⟨b, 0, none⟩) (n + m) c))
      (fun _ => its.set i [(b, .cells (cur.toList.take (n * k) ++ news ++ cur.toList.drop (n * k + m * k)).toArray e (0, 0))]) (fun _ => True) := by
  intro hbase w hsat
  obtain ⟨inf, g1, g2⟩ := Option.map_eq_some_iff.1 he
  have hh : w.heap[b]? = some (.cells cur e (0, 0)) := hsat.at hbase (ij := (i + 1, 0)) (by simp only [blkAt, hi]; rfl)
  have hone : ∀ u ∈ news, u.oneCell' = true := by
    intro u hu
    have := List.all_eq_true.1 h1 u hu
    cases u <;> first | rfl | (simp [oneC] at this)
  have hrun := run_append_room (P := P) w t ty e inf ht g1 b n c cur hh p m c2 news (by rw [g2]; exact hl) (hsrc hbase w hsat) hone hroom (by rw [g2, hl]; exact hfit)
  rw [g2, hl] at hrun
  exact ⟨(), _, trivial, by simp only [Sem.run_bind, hrun, Result.andThen_ok, Sem.run_pure], setRow_set hsat hi _⟩
/-- 'clear' of a part of a slice, one cell each. -/
theorem runClear {t ty e b o n c : Nat} {z : Value} {cur : Array Value} (i : Nat) (ht : P.underlying t = some (.slice e)) (he : (P.info? e).bind (·.zero) = some z) (hz : z.cells = #[z]) (h1 : oneC z = true)
    (hi : its[i]? = some [(b, .cells cur e (0, 0))]) (hn : 0 < n) (hfit : o + n ≤ cur.size) :
    RunX P W base its (do pure (Next.value (← Builtin.clear_ #[t] ty #[.slice (some ⟨b, o, none⟩) n c]))) (fun _ : Unit => .value (.tuple #[]))
      (fun _ => its.set i [(b, .cells (cur.toList.take o ++ List.replicate n z ++ cur.toList.drop (o + n)).toArray e (0, 0))]) (fun _ => True) := by
  intro hbase w hsat
  obtain ⟨inf, g1, g2⟩ := Option.bind_eq_some_iff.1 he
  have hh : w.heap[b]? = some (.cells cur e (0, 0)) := hsat.at hbase (ij := (i + 1, 0)) (by simp only [blkAt, hi]; rfl)
  have hone : z.oneCell' = true := by cases z <;> first | rfl | (simp [oneC] at h1)
  have hzc : (Builtin.zeroCells z.cells n).toList = List.replicate n z := by
    rw [hz]
    simp [Builtin.zeroCells]
    apply List.ext_getElem
    · simp
    · intro i h1 h2
      simp [Nat.mod_one]
  have hst := run_storeCells_at P b o e (List.replicate n z) 0 cur w hh (by simpa using hfit) (by intro v hv'; rw [List.eq_of_mem_replicate hv']; exact hone)
  simp only [Nat.add_zero, List.length_replicate] at hst
  refine ⟨(), _, trivial, ?_, setRow_set hsat hi _⟩
  obtain ⟨m, rfl⟩ : ∃ m, n = m + 1 := ⟨n - 1, by omega⟩
  simp [Builtin.clear_, run_underlying ht, zeroValue, typeInfo, g1, g2, hzc, hst]
end
end Go.Sx
namespace Go.Sx
section
variable {P : Program} {W : World} {base : List Blk} {its : Items}
theorem freeze_heap (w : World) (b : Nat) (cs : Array Value) (T : TypeId) (n : Nat) (hh : w.heap[b]? = some (.cells cs T (0, 0))) : (w.freeze ⟨b, n, none⟩ 1).heap[b]? = some (.cells cs T (n, n + 1)) := by
  have h1 : (w.freeze ⟨b, n, none⟩ 1).heap = w.heap.modify b fun
      | .cells c elem (lo, hi) => .cells c elem (if lo == hi then (n, n + 1) else (min lo n, max hi (n + 1)))
      | o => o := rfl
  rw [h1, Array.getElem?_modify, if_pos rfl, hh]; rfl
theorem freeze_other (w : World) (b n k : Nat) (hk : k ≠ b) : (w.freeze ⟨b, n, none⟩ 1).heap[k]? = w.heap[k]? := by
  have h1 : (w.freeze ⟨b, n, none⟩ 1).heap = w.heap.modify b fun
      | .cells c elem (lo, hi) => .cells c elem (if lo == hi then (n, n + 1) else (min lo n, max hi (n + 1)))
      | o => o := rfl
  rw [h1, Array.getElem?_modify, if_neg (fun e => hk e.symm)]
/-- A conversion to the type itself marks the row. -/
theorem runConvMark {T e b n c : Nat} {cs : Array Value} {T' : TypeId} (i : Nat) (hT : P.underlying T = some (.slice e)) (he : P.underlying e = some (.int .u8)) (hi : its[i]? = some [(b, .cells cs T' (0, 0))]) :
    RunX P W base its (do pure (Next.value (← convert T T (.slice (some ⟨b, 0, none⟩) n c)))) (fun _ : Unit => .value (.slice (some ⟨b, 0, none⟩) n c)) (fun _ => its.set i [(b, .cells cs T' (cs.size, cs.size + 1))]) (fun _ => True) := by
  intro hbase w hs
  have hh : w.heap[b]? = some (.cells cs T' (0, 0)) := hs.at hbase (ij := (i + 1, 0)) (by simp only [blkAt, hi]; rfl)
  have hsh : w.shape? b = some (T', cs.size) := by simp [World.shape?, hh]
  refine ⟨(), w.freeze ⟨b, cs.size, none⟩ 1, trivial, ?_, ?_⟩
  · simp [convert, run_underlying hT, run_underlying he, markStringish, hsh]
  · have hb : (its[i]?).bind (·[0]?) = some (b, .cells cs T' (0, 0)) := by rw [hi]; rfl
    have h1 := hs.set (w' := w.freeze ⟨b, cs.size, none⟩ 1) (o' := .cells cs T' (cs.size, cs.size + 1)) hb (by unfold World.freeze; split <;> simp) (freeze_heap w b cs T' _ hh) (fun k hk => freeze_other w b _ k hk)
    simpa [setBlk, hi] using h1
end
end Go.Sx
