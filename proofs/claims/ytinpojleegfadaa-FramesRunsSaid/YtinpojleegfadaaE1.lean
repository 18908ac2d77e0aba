/- The walks of the small methods of the reference. -/
import Derived.Test.YtinpojleegfadaaProg
import Derived.Test.YtinpojleegfadaaFz
namespace Go.Proofs.Ytinpojleegfadaa
open Go.Sx Go.Sx.Fr
set_option maxRecDepth 100000
set_option linter.unusedSimpArgs false
set_option linter.unusedVariables false
theorem c_rof (W : World) (base : List Blk) (R : RefS) (T : TabS) (fs : List FrS) (hlen : T.pools.length ≤ 4096) (hps : ∀ (i : Nat) (p : PoolS), T.pools[i]? = some p → 0 ≤ p.first ∧ 1 ≤ p.count ∧ p.first + p.count ≤ 4096) (n : Int) :
    CP Try.prog W base 50 #[.pointer (some ⟨R.rt, 0, none⟩), .int .i64 n] (refI R T fs) (.int .i64 (optI (ofN T.pools n))) := by
  intro F
  refine ctIntro Try.func50 rfl rfl (by kernel_rfl) ?_
  refine sSeq (rRunS [] [(4, .int .i64 0)] [] (by kernel_rfl) (sSeq (sSeq (rRunS [(3, 1, 0)] [(12, .int .i64 0), (11, .int .i64 (T.pools.length : Int)), (10, .slice (some ⟨R.pb, 0, none⟩) T.pools.length R.pc), (9, .pointer (some ⟨R.rt, 0, none⟩)), (8, .pointer (some ⟨R.rt, 0, none⟩)), (7, .pointer (some ⟨R.rt, 0, none⟩))] [R.rt] (by kernel_rfl) (sBlock ?_)))))
  refine sLoop (fun (i : Nat) => [(12, .int .i64 (i : Int)), (11, .int .i64 (T.pools.length : Int)), (10, .slice (some ⟨R.pb, 0, none⟩) T.pools.length R.pc), (1, .int .i64 n), (0, .pointer (some ⟨R.rt, 0, none⟩))]) (fun (i : Nat) => [[(R.rt, .cells #[.slice (some ⟨R.pb, 0, none⟩) T.pools.length R.pc, .slice (some ⟨R.rb, 0, none⟩) 4096 4096, .slice (some ⟨R.yb, 0, none⟩) 4096 4096] 81)], [(R.pb, .cells (arr encPool T.pools R.pr) 47)], [(R.rb, .cells (arr encInt (refsL fs) []) 3)], [(R.yb, .cells (arr encPg (pagesL fs) []) 71)], F]) (fun (i : Nat) => i ≤ T.pools.length ∧ ofN T.pools n = (ofN (T.pools.drop i) n).map (· + i)) (fun (i : Nat) => T.pools.length - i) 0 ⟨by omega, by simp⟩ (by kernel_rfl) rfl ?_
  rintro i ⟨hi, hI⟩
  refine sSeq (rRunS [] [(13, .bool (decide ((i : Int) < (T.pools.length : Int))))] [] (by kernel_rfl) (sSeq ?_))
  refine sIfP (bpD ((i : Int) < (T.pools.length : Int))) (by kernel_rfl) (fun h1 => ?_) (fun h1 => ?_)
  · refine sSkip (sSeq (sBlock (sSeq (sReg (lRunS 1 [] [(14, .int .i64 (i : Int))] [] (by kernel_rfl) ?_)))))
    refine lR (u := .pointer (some ⟨R.pb, i * 5, none⟩)) (runIndex0 (T := 22) (E := 47) (n := T.pools.length) (c := R.pc) (b := R.pb) (k := 5) (ik := .i64) i (by kernel_rfl) (by kernel_rfl) (by omega)) (by kernel_rfl) (by kernel_rfl) (by kernel_rfl) ?_
    obtain ⟨x1, hx1⟩ : ∃ x, T.pools[i]? = some x := ⟨_, List.getElem?_eq_getElem (by (try simp only [List.length_set, List.length_append, List.length_replicate]); omega)⟩
    refine lR (u := .agg #[.string x1.name, .int .i64 x1.first, .int .i64 x1.count, .bool x1.general, .bool x1.keep]) (runLoadS (f := encPool) (T := 47) (b := R.pb) (k := 5) (T' := 47) (rest := R.pr) (fun _ => rfl) (2, 0) (by kernel_rfl) hx1 (by kernel_rfl) (by kernel_rfl)) (by kernel_rfl) (by kernel_rfl) (by kernel_rfl) ?_
    refine lRunN 3 [(2, 6, 0)] (fun b2 => [(5, .int .i64 (i : Int)), (6, .pointer (some ⟨b2, 0, none⟩))]) (fun b2 => []) (fun b2 => .cells #[.string x1.name, .int .i64 x1.first, .int .i64 x1.count, .bool x1.general, .bool x1.keep] 47) (fun b2 => [b2, b2, b2, b2, b2]) (fun b2 => by kernel_rfl) (fun b2 => ?_)
    refine lEnd (sSeq (sReg (lRunS 5 [(2, 6, 0)] [(21, .bool (decide (n ≥ x1.first))), (20, .bool (decide (n ≥ x1.first))), (19, .int .i64 x1.first), (18, .pointer (some ⟨b2, 1, none⟩)), (17, .int .i64 n)] [b2] (by kernel_rfl) ?_)))
    rcases Classical.em (n ≥ x1.first) with h2 | h2
    · refine lOv (v := .bool true) (v0 := .bool (decide (n ≥ x1.first))) 21 (ovT (bpD (n ≥ x1.first)) h2) (by kernel_rfl) (lRunS 6 [(2, 6, 0), (4, 6, 0)] [(27, .int .i64 (IntKind.i64.wrap (x1.first + x1.count))), (26, .int .i64 x1.count), (25, .pointer (some ⟨b2, 2, none⟩)), (24, .int .i64 x1.first), (23, .pointer (some ⟨b2, 1, none⟩)), (22, .int .i64 n)] [b2, b2] (by kernel_rfl) (lOv (v := .int .i64 (x1.first + x1.count)) (v0 := .int .i64 (IntKind.i64.wrap (x1.first + x1.count))) 27 (congrArg (Value.int .i64) (wrap_i64 (by have := hps i x1 hx1; omega))) (by kernel_rfl) (lRunS 2 [] [(29, .bool (decide (n < (x1.first + x1.count)))), (28, .bool (decide (n < (x1.first + x1.count))))] [] (by kernel_rfl) (lEnd ?_))))
      refine sIfP (bpD (n < (x1.first + x1.count))) (by kernel_rfl) (fun h3 => ?_) (fun h3 => ?_)
      · refine sSeq (rRunS [] [(4, .int .i64 (i : Int)), (30, .int .i64 (i : Int))] [] (by kernel_rfl) (sRet ?_))
        exact wRet () (0, 0) [] (.int .i64 (i : Int)) [.tmp 4] rfl (by kernel_rfl) (congrArg (Value.int .i64) (by rw [hI, ofN_step hx1, if_pos (by omega)]; simp [optI])) trivial (fun _ h => h.pick [0, 1, 2, 3, 4] (by kernel_rfl) (by kernel_rfl))
      · refine sSkip (sEnd (sReg (lRunS 1 [] [(31, .int .i64 (IntKind.i64.wrap ((i : Int) + 1)))] [] (by kernel_rfl) (lOv 31 (iw (x := (i : Int) + 1) (by omega)) (by kernel_rfl) (lRunS 1 [] [(12, .int .i64 ((i : Int) + 1))] [] (by kernel_rfl) ?_)))))
        refine lEnd ?_
        exact sPick [0, 1, 2, 3, 4] (by kernel_rfl) (by kernel_rfl) (sAgain (i + 1) ⟨by omega, by rw [hI, ofN_step hx1, if_neg (by omega), Option.map_map]; congr 1; funext k; show k + 1 + i = k + (i + 1); omega⟩ (by first | omega | (simp only []; omega)) (by kernel_rfl) rfl)
    · refine lOv (v := .bool false) (v0 := .bool (decide (n ≥ x1.first))) 21 (ovF (bpD (n ≥ x1.first)) h2) (by kernel_rfl) (lRunS 8 [] [(29, .bool false), (28, undef), (27, undef), (26, undef), (25, undef), (24, undef), (23, undef), (22, undef)] [] (by kernel_rfl) (lEnd (sIfF (by kernel_rfl) (sSkip (sEnd ?_)))))
      refine sReg (lRunS 1 [] [(31, .int .i64 (IntKind.i64.wrap ((i : Int) + 1)))] [] (by kernel_rfl) (lOv 31 (iw (x := (i : Int) + 1) (by omega)) (by kernel_rfl) (lRunS 1 [] [(12, .int .i64 ((i : Int) + 1))] [] (by kernel_rfl) (lEnd ?_))))
      exact sPick [0, 1, 2, 3, 4] (by kernel_rfl) (by kernel_rfl) (sAgain (i + 1) ⟨by omega, by rw [hI, ofN_step hx1, if_neg (by omega), Option.map_map]; congr 1; funext k; show k + 1 + i = k + (i + 1); omega⟩ (by first | omega | (simp only []; omega)) (by kernel_rfl) rfl)
  · refine sExit (by kernel_rfl) (sSeq (rRunS [] [(4, .int .i64 (-1))] [] (by kernel_rfl) (sRet ?_)))
    exact wRet () (0, 0) [] (.int .i64 (-1)) [.tmp 4] rfl (by kernel_rfl) (congrArg (Value.int .i64) (by rw [hI, List.drop_of_length_le (by omega)]; rfl)) trivial (fun _ h => h)

def refP (R : RefS) (T : TabS) : Items :=
  [[(R.rt, .cells #[.slice (some ⟨R.pb, 0, none⟩) T.pools.length R.pc, .slice (some ⟨R.rb, 0, none⟩) 4096 4096, .slice (some ⟨R.yb, 0, none⟩) 4096 4096] 81)], [(R.pb, .cells (arr encPool T.pools R.pr) 47)]]
theorem c_rof1 (W : World) (base : List Blk) (R : RefS) (T : TabS) (hlen : T.pools.length ≤ 4096) (hps : ∀ (i : Nat) (p : PoolS), T.pools[i]? = some p → 0 ≤ p.first ∧ 1 ≤ p.count ∧ p.first + p.count ≤ 4096) (n : Int) :
    CP Try.prog W base 50 #[.pointer (some ⟨R.rt, 0, none⟩), .int .i64 n] (refP R T) (.int .i64 (optI (ofN T.pools n))) := by
  intro F
  refine ctIntro Try.func50 rfl rfl (by kernel_rfl) ?_
  refine sSeq (rRunS [] [(4, .int .i64 0)] [] (by kernel_rfl) (sSeq (sSeq (rRunS [(3, 1, 0)] [(12, .int .i64 0), (11, .int .i64 (T.pools.length : Int)), (10, .slice (some ⟨R.pb, 0, none⟩) T.pools.length R.pc), (9, .pointer (some ⟨R.rt, 0, none⟩)), (8, .pointer (some ⟨R.rt, 0, none⟩)), (7, .pointer (some ⟨R.rt, 0, none⟩))] [R.rt] (by kernel_rfl) (sBlock ?_)))))
  refine sLoop (fun (i : Nat) => [(12, .int .i64 (i : Int)), (11, .int .i64 (T.pools.length : Int)), (10, .slice (some ⟨R.pb, 0, none⟩) T.pools.length R.pc), (1, .int .i64 n), (0, .pointer (some ⟨R.rt, 0, none⟩))]) (fun (i : Nat) => [[(R.rt, .cells #[.slice (some ⟨R.pb, 0, none⟩) T.pools.length R.pc, .slice (some ⟨R.rb, 0, none⟩) 4096 4096, .slice (some ⟨R.yb, 0, none⟩) 4096 4096] 81)], [(R.pb, .cells (arr encPool T.pools R.pr) 47)], F]) (fun (i : Nat) => i ≤ T.pools.length ∧ ofN T.pools n = (ofN (T.pools.drop i) n).map (· + i)) (fun (i : Nat) => T.pools.length - i) 0 ⟨by omega, by simp⟩ (by kernel_rfl) rfl ?_
  rintro i ⟨hi, hI⟩
  refine sSeq (rRunS [] [(13, .bool (decide ((i : Int) < (T.pools.length : Int))))] [] (by kernel_rfl) (sSeq ?_))
  refine sIfP (bpD ((i : Int) < (T.pools.length : Int))) (by kernel_rfl) (fun h1 => ?_) (fun h1 => ?_)
  · refine sSkip (sSeq (sBlock (sSeq (sReg (lRunS 1 [] [(14, .int .i64 (i : Int))] [] (by kernel_rfl) ?_)))))
    refine lR (u := .pointer (some ⟨R.pb, i * 5, none⟩)) (runIndex0 (T := 22) (E := 47) (n := T.pools.length) (c := R.pc) (b := R.pb) (k := 5) (ik := .i64) i (by kernel_rfl) (by kernel_rfl) (by omega)) (by kernel_rfl) (by kernel_rfl) (by kernel_rfl) ?_
    obtain ⟨x1, hx1⟩ : ∃ x, T.pools[i]? = some x := ⟨_, List.getElem?_eq_getElem (by (try simp only [List.length_set, List.length_append, List.length_replicate]); omega)⟩
    refine lR (u := .agg #[.string x1.name, .int .i64 x1.first, .int .i64 x1.count, .bool x1.general, .bool x1.keep]) (runLoadS (f := encPool) (T := 47) (b := R.pb) (k := 5) (T' := 47) (rest := R.pr) (fun _ => rfl) (2, 0) (by kernel_rfl) hx1 (by kernel_rfl) (by kernel_rfl)) (by kernel_rfl) (by kernel_rfl) (by kernel_rfl) ?_
    refine lRunN 3 [(2, 4, 0)] (fun b2 => [(5, .int .i64 (i : Int)), (6, .pointer (some ⟨b2, 0, none⟩))]) (fun b2 => []) (fun b2 => .cells #[.string x1.name, .int .i64 x1.first, .int .i64 x1.count, .bool x1.general, .bool x1.keep] 47) (fun b2 => [b2, b2, b2, b2, b2]) (fun b2 => by kernel_rfl) (fun b2 => ?_)
    refine lEnd (sSeq (sReg (lRunS 5 [(2, 4, 0)] [(21, .bool (decide (n ≥ x1.first))), (20, .bool (decide (n ≥ x1.first))), (19, .int .i64 x1.first), (18, .pointer (some ⟨b2, 1, none⟩)), (17, .int .i64 n)] [b2] (by kernel_rfl) ?_)))
    rcases Classical.em (n ≥ x1.first) with h2 | h2
    · refine lOv (v := .bool true) (v0 := .bool (decide (n ≥ x1.first))) 21 (ovT (bpD (n ≥ x1.first)) h2) (by kernel_rfl) (lRunS 6 [(2, 4, 0), (4, 4, 0)] [(27, .int .i64 (IntKind.i64.wrap (x1.first + x1.count))), (26, .int .i64 x1.count), (25, .pointer (some ⟨b2, 2, none⟩)), (24, .int .i64 x1.first), (23, .pointer (some ⟨b2, 1, none⟩)), (22, .int .i64 n)] [b2, b2] (by kernel_rfl) (lOv (v := .int .i64 (x1.first + x1.count)) (v0 := .int .i64 (IntKind.i64.wrap (x1.first + x1.count))) 27 (congrArg (Value.int .i64) (wrap_i64 (by have := hps i x1 hx1; omega))) (by kernel_rfl) (lRunS 2 [] [(29, .bool (decide (n < (x1.first + x1.count)))), (28, .bool (decide (n < (x1.first + x1.count))))] [] (by kernel_rfl) (lEnd ?_))))
      refine sIfP (bpD (n < (x1.first + x1.count))) (by kernel_rfl) (fun h3 => ?_) (fun h3 => ?_)
      · refine sSeq (rRunS [] [(4, .int .i64 (i : Int)), (30, .int .i64 (i : Int))] [] (by kernel_rfl) (sRet ?_))
        exact wRet () (0, 0) [] (.int .i64 (i : Int)) [.tmp 4] rfl (by kernel_rfl) (congrArg (Value.int .i64) (by rw [hI, ofN_step hx1, if_pos (by omega)]; simp [optI])) trivial (fun _ h => h.pick [0, 1, 2] (by kernel_rfl) (by kernel_rfl))
      · refine sSkip (sEnd (sReg (lRunS 1 [] [(31, .int .i64 (IntKind.i64.wrap ((i : Int) + 1)))] [] (by kernel_rfl) (lOv 31 (iw (x := (i : Int) + 1) (by omega)) (by kernel_rfl) (lRunS 1 [] [(12, .int .i64 ((i : Int) + 1))] [] (by kernel_rfl) ?_)))))
        refine lEnd ?_
        exact sPick [0, 1, 2] (by kernel_rfl) (by kernel_rfl) (sAgain (i + 1) ⟨by omega, by rw [hI, ofN_step hx1, if_neg (by omega), Option.map_map]; congr 1; funext k; show k + 1 + i = k + (i + 1); omega⟩ (by first | omega | (simp only []; omega)) (by kernel_rfl) rfl)
    · refine lOv (v := .bool false) (v0 := .bool (decide (n ≥ x1.first))) 21 (ovF (bpD (n ≥ x1.first)) h2) (by kernel_rfl) (lRunS 8 [] [(29, .bool false), (28, undef), (27, undef), (26, undef), (25, undef), (24, undef), (23, undef), (22, undef)] [] (by kernel_rfl) (lEnd (sIfF (by kernel_rfl) (sSkip (sEnd ?_)))))
      refine sReg (lRunS 1 [] [(31, .int .i64 (IntKind.i64.wrap ((i : Int) + 1)))] [] (by kernel_rfl) (lOv 31 (iw (x := (i : Int) + 1) (by omega)) (by kernel_rfl) (lRunS 1 [] [(12, .int .i64 ((i : Int) + 1))] [] (by kernel_rfl) (lEnd ?_))))
      exact sPick [0, 1, 2] (by kernel_rfl) (by kernel_rfl) (sAgain (i + 1) ⟨by omega, by rw [hI, ofN_step hx1, if_neg (by omega), Option.map_map]; congr 1; funext k; show k + 1 + i = k + (i + 1); omega⟩ (by first | omega | (simp only []; omega)) (by kernel_rfl) rfl)
  · refine sExit (by kernel_rfl) (sSeq (rRunS [] [(4, .int .i64 (-1))] [] (by kernel_rfl) (sRet ?_)))
    exact wRet () (0, 0) [] (.int .i64 (-1)) [.tmp 4] rfl (by kernel_rfl) (congrArg (Value.int .i64) (by rw [hI, List.drop_of_length_le (by omega)]; rfl)) trivial (fun _ h => h)

theorem c_rnamed (W : World) (base : List Blk) (R : RefS) (T : TabS) (fs : List FrS) (hlen : T.pools.length ≤ 4096) (s : ByteArray) :
    CP Try.prog W base 53 #[.pointer (some ⟨R.rt, 0, none⟩), .string s] (refI R T fs) (.int .i64 (optI (idxOf T.pools s))) := by
  intro F
  refine ctIntro Try.func53 rfl rfl (by kernel_rfl) ?_
  refine sSeq (rRunS [] [(4, .int .i64 0)] [] (by kernel_rfl) (sSeq (sSeq (rRunS [(3, 1, 0)] [(12, .int .i64 0), (11, .int .i64 (T.pools.length : Int)), (10, .slice (some ⟨R.pb, 0, none⟩) T.pools.length R.pc), (9, .pointer (some ⟨R.rt, 0, none⟩)), (8, .pointer (some ⟨R.rt, 0, none⟩)), (7, .pointer (some ⟨R.rt, 0, none⟩))] [R.rt] (by kernel_rfl) (sBlock ?_)))))
  refine sLoop (fun (i : Nat) => [(12, .int .i64 (i : Int)), (11, .int .i64 (T.pools.length : Int)), (10, .slice (some ⟨R.pb, 0, none⟩) T.pools.length R.pc), (1, .string s), (0, .pointer (some ⟨R.rt, 0, none⟩))]) (fun (i : Nat) => [[(R.rt, .cells #[.slice (some ⟨R.pb, 0, none⟩) T.pools.length R.pc, .slice (some ⟨R.rb, 0, none⟩) 4096 4096, .slice (some ⟨R.yb, 0, none⟩) 4096 4096] 81)], [(R.pb, .cells (arr encPool T.pools R.pr) 47)], [(R.rb, .cells (arr encInt (refsL fs) []) 3)], [(R.yb, .cells (arr encPg (pagesL fs) []) 71)], F]) (fun (i : Nat) => i ≤ T.pools.length ∧ idxOf T.pools s = (idxOf (T.pools.drop i) s).map (· + i)) (fun (i : Nat) => T.pools.length - i) 0 ⟨by omega, by simp⟩ (by kernel_rfl) rfl ?_
  rintro i ⟨hi, hI⟩
  refine sSeq (rRunS [] [(13, .bool (decide ((i : Int) < (T.pools.length : Int))))] [] (by kernel_rfl) (sSeq ?_))
  refine sIfP (bpD ((i : Int) < (T.pools.length : Int))) (by kernel_rfl) (fun h1 => ?_) (fun h1 => ?_)
  · refine sSkip (sSeq (sBlock (sSeq (sReg (lRunS 1 [] [(14, .int .i64 (i : Int))] [] (by kernel_rfl) ?_)))))
    refine lR (u := .pointer (some ⟨R.pb, i * 5, none⟩)) (runIndex0 (T := 22) (E := 47) (n := T.pools.length) (c := R.pc) (b := R.pb) (k := 5) (ik := .i64) i (by kernel_rfl) (by kernel_rfl) (by omega)) (by kernel_rfl) (by kernel_rfl) (by kernel_rfl) ?_
    obtain ⟨x1, hx1⟩ : ∃ x, T.pools[i]? = some x := ⟨_, List.getElem?_eq_getElem (by (try simp only [List.length_set, List.length_append, List.length_replicate]); omega)⟩
    refine lR (u := .agg #[.string x1.name, .int .i64 x1.first, .int .i64 x1.count, .bool x1.general, .bool x1.keep]) (runLoadS (f := encPool) (T := 47) (b := R.pb) (k := 5) (T' := 47) (rest := R.pr) (fun _ => rfl) (2, 0) (by kernel_rfl) hx1 (by kernel_rfl) (by kernel_rfl)) (by kernel_rfl) (by kernel_rfl) (by kernel_rfl) ?_
    refine lRunN 3 [(2, 6, 0)] (fun b2 => [(5, .int .i64 (i : Int)), (6, .pointer (some ⟨b2, 0, none⟩))]) (fun b2 => []) (fun b2 => .cells #[.string x1.name, .int .i64 x1.first, .int .i64 x1.count, .bool x1.general, .bool x1.keep] 47) (fun b2 => [b2, b2, b2, b2, b2]) (fun b2 => by kernel_rfl) (fun b2 => ?_)
    refine lEnd (sSeq (rRunS [(1, 6, 0)] [(20, .bool (x1.name.toList == s.toList)), (19, .string s), (18, .string x1.name), (17, .pointer (some ⟨b2, 0, none⟩))] [b2] (by kernel_rfl) ?_))
    refine sIfP (bpS x1.name s) (by kernel_rfl) (fun h2 => ?_) (fun h2 => ?_)
    · refine sSeq (rRunS [] [(4, .int .i64 (i : Int)), (21, .int .i64 (i : Int))] [] (by kernel_rfl) (sRet ?_))
      exact wRet () (0, 0) [] (.int .i64 (i : Int)) [.tmp 4] rfl (by kernel_rfl) (congrArg (Value.int .i64) (by rw [hI, idxOf_step hx1, if_pos h2.symm]; simp [optI])) trivial (fun _ h => h.pick [0, 1, 2, 3, 4] (by kernel_rfl) (by kernel_rfl))
    · refine sSkip (sEnd (sReg (lRunS 1 [] [(22, .int .i64 (IntKind.i64.wrap ((i : Int) + 1)))] [] (by kernel_rfl) (lOv 22 (iw (x := (i : Int) + 1) (by omega)) (by kernel_rfl) (lRunS 1 [] [(12, .int .i64 ((i : Int) + 1))] [] (by kernel_rfl) ?_)))))
      refine lEnd ?_
      exact sPick [0, 1, 2, 3, 4] (by kernel_rfl) (by kernel_rfl) (sAgain (i + 1) ⟨by omega, by rw [hI, idxOf_step hx1, if_neg (fun e => h2 e.symm), Option.map_map]; congr 1; funext k; show k + 1 + i = k + (i + 1); omega⟩ (by first | omega | (simp only []; omega)) (by kernel_rfl) rfl)
  · refine sExit (by kernel_rfl) (sSeq (rRunS [] [(4, .int .i64 (-1))] [] (by kernel_rfl) (sRet ?_)))
    exact wRet () (0, 0) [] (.int .i64 (-1)) [.tmp 4] rfl (by kernel_rfl) (congrArg (Value.int .i64) (by rw [hI, List.drop_of_length_le (by omega)]; rfl)) trivial (fun _ h => h)

theorem refE_max {fs : List FrS} {n : Int} {f : FrS} (hz : findE fs n false = 0) (hg : getF fs n = some f) (h : f.refs = 60000) : refE fs n = 18 := by
  unfold refE; rw [if_neg (by simpa using hz), hg]; simp [h]
theorem refE_ok {fs : List FrS} {n : Int} {f : FrS} (hz : findE fs n false = 0) (hg : getF fs n = some f) (h : f.refs ≤ 60000) (h2 : ¬ f.refs = 60000) : refE fs n = 0 := by
  unfold refE; rw [if_neg (by simpa using hz), hg]; show (if f.refs ≥ 60000 then (18 : Int) else 0) = 0; rw [if_neg (by omega)]
theorem refE_bad {fs : List FrS} {n : Int} (hz : findE fs n false ≠ 0) : refE fs n = findE fs n false := by unfold refE; rw [if_pos hz]
theorem poolV_of {ps : List PoolS} {fs : List FrS} {n : Int} {f : FrS} {p : PoolS} (hg : getF fs n = some f) (hp : ps[f.pool]? = some p) : poolV ps fs n = .tuple #[.string p.name, .int .i64 0] := by
  unfold poolV; rw [hg]; simp only [hp]; rfl

theorem c_rknown (W : World) (base : List Blk) (R : RefS) (T : TabS) (fs : List FrS) (ht : TabOk T fs) (n : Int) (u : Bool) :
    CP Try.prog W base 49 #[.pointer (some ⟨R.rt, 0, none⟩), .int .i64 n, .bool u] (refI R T fs) (.int .i64 (findE fs n (!u))) := by
  intro F
  refine ctIntro Try.func49 rfl rfl (by kernel_rfl) ?_
  refine sSeq (rRunS [] [(6, .int .i64 0)] [] (by kernel_rfl) (sSeq (sSeq (sReg (lRunS 2 [] [(8, .int .i64 n), (7, .pointer (some ⟨R.rt, 0, none⟩))] [] (by kernel_rfl) ?_)))))
  refine lCallR [0, 1, 2, 3] [0, 1, 2, 3, 4] (c_rof W base R T fs (by have := ht.len; omega) ht.ps n) (by kernel_rfl) (by kernel_rfl) (by kernel_rfl) (by kernel_rfl) (by kernel_rfl) ?_
  rcases hg : getF fs n with _ | f
  · refine lOv (v := .int .i64 (-1)) (v0 := .int .i64 (optI (ofN T.pools n))) 9 (congrArg (Value.int .i64) (by rw [of_none ht hg]; rfl)) (by kernel_rfl) (lRunS 1 [] [(10, .bool true)] [] (by kernel_rfl) (lEnd (sIfT (by kernel_rfl) (sSeq (rRunS [] [(6, .int .i64 34)] [] (by kernel_rfl) ?_)))))
    refine sRet ?_
    exact wRet () (0, 0) [] (.int .i64 34) [.tmp 6] rfl (by kernel_rfl) (by first | (exfalso; omega) | simp_all [findE]) trivial (fun _ h => h)
  · refine lOv (v := .int .i64 (f.pool : Int)) (v0 := .int .i64 (optI (ofN T.pools n))) 9 (congrArg (Value.int .i64) (by rw [(of_get ht hg).1]; rfl)) (by kernel_rfl) ?_
    obtain ⟨ho, hn0, hn1⟩ := of_get ht hg
    have hrf : rf fs n = f.refs := by simp [rf, hg]
    have hrb := ht.refs _ _ hg
    refine lRunS 1 [] [(10, .bool (decide ((f.pool : Int) < (0 : Int))))] [] (by kernel_rfl) ?_
    rcases Classical.em ((f.pool : Int) < (0 : Int)) with h1 | h1
    · refine lOv (v := .bool true) (v0 := .bool (decide ((f.pool : Int) < (0 : Int)))) 10 (ovT (bpD ((f.pool : Int) < (0 : Int))) h1) (by kernel_rfl) (lEnd (sIfT (by kernel_rfl) (sSeq (rRunS [] [(6, .int .i64 34)] [] (by kernel_rfl) (sRet ?_)))))
      exact wRet () (0, 0) [] (.int .i64 34) [.tmp 6] rfl (by kernel_rfl) (by first | (exfalso; omega) | simp_all [findE]) trivial (fun _ h => h)
    · refine lOv (v := .bool false) (v0 := .bool (decide ((f.pool : Int) < (0 : Int)))) 10 (ovF (bpD ((f.pool : Int) < (0 : Int))) h1) (by kernel_rfl) (lEnd (sIfF (by kernel_rfl) (sSkip (sSeq (sSeq ?_)))))
      refine sReg (lRunS 2 [] [(12, .bool u), (11, .bool u)] [] (by kernel_rfl) ?_)
      rcases Classical.em (u = true) with h2 | h2
      · refine lOv (v := .bool true) (v0 := .bool u) 12 (ovT (bpR u) h2) (by kernel_rfl) (lRunS 5 [(3, 1, 0)] [(17, .int .i64 n), (16, .slice (some ⟨R.rb, 0, none⟩) 4096 4096), (15, .pointer (some ⟨R.rt, 1, none⟩)), (14, .pointer (some ⟨R.rt, 0, none⟩)), (13, .pointer (some ⟨R.rt, 0, none⟩))] [R.rt] (by kernel_rfl) (lOv (v := .int .i64 (n.toNat : Int)) (v0 := .int .i64 n) 17 (congrArg (Value.int .i64) (by omega)) (by kernel_rfl) (lR (u := .pointer (some ⟨R.rb, n.toNat * 1, none⟩)) (runIndex0 (T := 39) (E := 3) (n := 4096) (c := 4096) (b := R.rb) (k := 1) (ik := .i64) n.toNat (by kernel_rfl) (by kernel_rfl) (by omega)) (by kernel_rfl) (by kernel_rfl) (by kernel_rfl) (lR (u := .int .i64 f.refs) (runLoadE1 (f := encInt) (T := 3) (b := R.rb) (T' := 3) (rest := []) (v := .int .i64 f.refs) (fun _ => rfl) (3, 0) (by kernel_rfl) ((refsL_get fs hn0 hn1).trans (congrArg some hrf)) rfl (by kernel_rfl)) (by kernel_rfl) (by kernel_rfl) (by kernel_rfl) (lRunS 2 [] [(21, .bool (decide (f.refs = (0 : Int)))), (20, .bool (decide (f.refs = (0 : Int))))] [] (by kernel_rfl) ?_)))))
        refine lEnd ?_
        refine sIfP (bpD (f.refs = (0 : Int))) (by kernel_rfl) (fun h3 => ?_) (fun h3 => ?_)
        · refine sSeq (rRunS [] [(6, .int .i64 35)] [] (by kernel_rfl) (sRet ?_))
          exact wRet () (0, 0) [] (.int .i64 35) [.tmp 6] rfl (by kernel_rfl) (by first | (exfalso; omega) | simp_all [findE]) trivial (fun _ h => h)
        · refine sSkip (sSeq (rRunS [] [(6, .int .i64 0)] [] (by kernel_rfl) (sRet ?_)))
          exact wRet () (0, 0) [] (.int .i64 0) [.tmp 6] rfl (by kernel_rfl) (by first | (exfalso; omega) | simp_all [findE]) trivial (fun _ h => h)
      · refine lOv (v := .bool false) (v0 := .bool u) 12 (ovF (bpR u) h2) (by kernel_rfl) (lRunS 9 [] [(21, .bool false), (20, undef), (19, undef), (18, undef), (17, undef), (16, undef), (15, undef), (14, undef), (13, undef)] [] (by kernel_rfl) (lEnd (sIfF (by kernel_rfl) (sSkip (sSeq ?_)))))
        refine rRunS [] [(6, .int .i64 0)] [] (by kernel_rfl) (sRet ?_)
        exact wRet () (0, 0) [] (.int .i64 0) [.tmp 6] rfl (by kernel_rfl) (by first | (exfalso; omega) | simp_all [findE]) trivial (fun _ h => h)

theorem c_rRefs (W : World) (base : List Blk) (R : RefS) (T : TabS) (fs : List FrS) (ht : TabOk T fs) (n : Int) :
    CP Try.prog W base 30 #[.pointer (some ⟨R.rt, 0, none⟩), .int .i64 n] (refI R T fs) (refsV fs n) := by
  intro F
  refine ctIntro Try.func30 rfl rfl (by kernel_rfl) ?_
  refine sSeq (rRunS [] [(5, .int .i64 0), (4, .int .i64 0)] [] (by kernel_rfl) (sSeq (sSeq (sReg (lRunS 2 [] [(8, .int .i64 n), (7, .pointer (some ⟨R.rt, 0, none⟩))] [] (by kernel_rfl) ?_)))))
  refine lCallR [0, 1, 2, 3] [0, 1, 2, 3, 4] (c_rknown W base R T fs ht n false) (by kernel_rfl) (by kernel_rfl) (by kernel_rfl) (by kernel_rfl) (by kernel_rfl) ?_
  rcases hg : getF fs n with _ | f
  · refine lOv (v := .int .i64 34) (v0 := .int .i64 (findE fs n true)) 9 (congrArg (Value.int .i64) (by simp [findE, hg])) (by kernel_rfl) (lRunS 1 [] [(6, .int .i64 34)] [] (by kernel_rfl) (lEnd (sSeq (rRunS [] [(11, .bool true), (10, .int .i64 34)] [] (by kernel_rfl) (sIfT (by kernel_rfl) ?_)))))
    refine sSeq (rRunS [] [(5, .int .i64 34), (4, .int .i64 0), (12, .int .i64 34)] [] (by kernel_rfl) (sRet ?_))
    exact wRet () (0, 0) [] (.tuple #[.int .i64 0, .int .i64 34]) [.tmp 4, .tmp 5] rfl (by kernel_rfl) (by simp [refsV, hg]) trivial (fun _ h => h)
  · refine lOv (v := .int .i64 0) (v0 := .int .i64 (findE fs n true)) 9 (congrArg (Value.int .i64) (by simp [findE, hg])) (by kernel_rfl) ?_
    obtain ⟨ho, hn0, hn1⟩ := of_get ht hg
    have hrf : rf fs n = f.refs := by simp [rf, hg]
    have hrb := ht.refs _ _ hg
    refine lRunS 1 [] [(6, .int .i64 0)] [] (by kernel_rfl) (lEnd (sSeq (rRunS [] [(11, .bool false), (10, .int .i64 0)] [] (by kernel_rfl) (sIfF (by kernel_rfl) (sSkip ?_)))))
    refine sSeq (sReg (lRunS 5 [(3, 1, 0)] [(17, .int .i64 n), (16, .slice (some ⟨R.rb, 0, none⟩) 4096 4096), (15, .pointer (some ⟨R.rt, 1, none⟩)), (14, .pointer (some ⟨R.rt, 0, none⟩)), (13, .pointer (some ⟨R.rt, 0, none⟩))] [R.rt] (by kernel_rfl) (lOv (v := .int .i64 (n.toNat : Int)) (v0 := .int .i64 n) 17 (congrArg (Value.int .i64) (by omega)) (by kernel_rfl) (lR (u := .pointer (some ⟨R.rb, n.toNat * 1, none⟩)) (runIndex0 (T := 39) (E := 3) (n := 4096) (c := 4096) (b := R.rb) (k := 1) (ik := .i64) n.toNat (by kernel_rfl) (by kernel_rfl) (by omega)) (by kernel_rfl) (by kernel_rfl) (by kernel_rfl) (lR (u := .int .i64 f.refs) (runLoadE1 (f := encInt) (T := 3) (b := R.rb) (T' := 3) (rest := []) (v := .int .i64 f.refs) (fun _ => rfl) (3, 0) (by kernel_rfl) ((refsL_get fs hn0 hn1).trans (congrArg some hrf)) rfl (by kernel_rfl)) (by kernel_rfl) (by kernel_rfl) (by kernel_rfl) ?_)))))
    refine lRunS 2 [] [(5, .int .i64 0), (4, .int .i64 f.refs)] [] (by kernel_rfl) (lEnd (sRet ?_))
    exact wRet () (0, 0) [] (.tuple #[.int .i64 f.refs, .int .i64 0]) [.tmp 4, .tmp 5] rfl (by kernel_rfl) (by simp [refsV, hg]) trivial (fun _ h => h)

theorem c_rPool (W : World) (base : List Blk) (R : RefS) (T : TabS) (fs : List FrS) (ht : TabOk T fs) (n : Int) :
    CP Try.prog W base 32 #[.pointer (some ⟨R.rt, 0, none⟩), .int .i64 n] (refI R T fs) (poolV T.pools fs n) := by
  intro F
  refine ctIntro Try.func32 rfl rfl (by kernel_rfl) ?_
  refine sSeq (rRunS [] [(5, .int .i64 0), (4, .string (⟨#[]⟩ : ByteArray))] [] (by kernel_rfl) (sSeq (sSeq (sReg (lRunS 2 [] [(8, .int .i64 n), (7, .pointer (some ⟨R.rt, 0, none⟩))] [] (by kernel_rfl) ?_)))))
  refine lCallR [0, 1, 2, 3] [0, 1, 2, 3, 4] (c_rknown W base R T fs ht n false) (by kernel_rfl) (by kernel_rfl) (by kernel_rfl) (by kernel_rfl) (by kernel_rfl) ?_
  rcases hg : getF fs n with _ | f
  · refine lOv (v := .int .i64 34) (v0 := .int .i64 (findE fs n true)) 9 (congrArg (Value.int .i64) (by simp [findE, hg])) (by kernel_rfl) (lRunS 1 [] [(6, .int .i64 34)] [] (by kernel_rfl) (lEnd (sSeq (rRunS [] [(11, .bool true), (10, .int .i64 34)] [] (by kernel_rfl) (sIfT (by kernel_rfl) ?_)))))
    refine sSeq (rRunS [] [(5, .int .i64 34), (4, .string (⟨#[]⟩ : ByteArray)), (12, .int .i64 34)] [] (by kernel_rfl) (sRet ?_))
    exact wRet () (0, 0) [] (.tuple #[.string (⟨#[]⟩ : ByteArray), .int .i64 34]) [.tmp 4, .tmp 5] rfl (by kernel_rfl) (by simp [poolV, hg]) trivial (fun _ h => h)
  · refine lOv (v := .int .i64 0) (v0 := .int .i64 (findE fs n true)) 9 (congrArg (Value.int .i64) (by simp [findE, hg])) (by kernel_rfl) ?_
    obtain ⟨ho, hn0, hn1⟩ := of_get ht hg
    have hrf : rf fs n = f.refs := by simp [rf, hg]
    have hrb := ht.refs _ _ hg
    refine lRunS 1 [] [(6, .int .i64 0)] [] (by kernel_rfl) (lEnd (sSeq (rRunS [] [(11, .bool false), (10, .int .i64 0)] [] (by kernel_rfl) (sIfF (by kernel_rfl) (sSkip ?_)))))
    refine sSeq (rQuiet (by kernel_rfl) (by kernel_rfl) (qRun 6 [(3, 1, 0)] [(18, .int .i64 n), (17, .pointer (some ⟨R.rt, 0, none⟩)), (16, .slice (some ⟨R.pb, 0, none⟩) T.pools.length R.pc), (15, .pointer (some ⟨R.rt, 0, none⟩)), (14, .pointer (some ⟨R.rt, 0, none⟩)), (13, .pointer (some ⟨R.rt, 0, none⟩))] [R.rt] (by kernel_rfl) ?_))
    refine qCallR [0, 1, 2, 3] [0, 1, 2, 3, 4] (c_rof W base R T fs (by have := ht.len; omega) ht.ps n) (by kernel_rfl) (by kernel_rfl) (by kernel_rfl) (by kernel_rfl) (by kernel_rfl) ?_
    obtain ⟨p, hp, hp1, hp2⟩ := ht.cov2 n f hg
    have hfp := (List.getElem?_eq_some_iff.1 hp).1
    refine qOv (v := .int .i64 (f.pool : Int)) (v0 := .int .i64 (optI (ofN T.pools n))) 19 (congrArg (Value.int .i64) (by rw [ho]; rfl)) (by kernel_rfl) (qR (u := .pointer (some ⟨R.pb, f.pool * 5, none⟩)) (runIndex0 (T := 22) (E := 47) (n := T.pools.length) (c := R.pc) (b := R.pb) (k := 5) (ik := .i64) f.pool (by kernel_rfl) (by kernel_rfl) (by omega)) (by kernel_rfl) (by kernel_rfl) (by kernel_rfl) (qRun 1 [] [(21, .pointer (some ⟨R.pb, f.pool * 5, none⟩))] [] (by kernel_rfl) (qR (u := .string p.name) (runLoadE (f := encPool) (T := 9) (b := R.pb) (k := 5) (T' := 47) (rest := R.pr) (v := .string p.name) (fun _ => rfl) 0 (2, 0) (by kernel_rfl) hp (by decide) rfl (by kernel_rfl)) (by kernel_rfl) (by kernel_rfl) (by kernel_rfl) (qRun 2 [] [(5, .int .i64 0), (4, .string p.name)] [] (by kernel_rfl) (qEnd ?_)))))
    refine sRet ?_
    exact wRet () (0, 0) [] (.tuple #[.string p.name, .int .i64 0]) [.tmp 4, .tmp 5] rfl (by kernel_rfl) ((poolV_of hg hp).symm) trivial (fun _ h => h)

theorem c_rUnref (W : World) (base : List Blk) (R : RefS) (T : TabS) (fs : List FrS) (ht : TabOk T fs) (n : Int) :
    CF Try.prog W base 28 #[.pointer (some ⟨R.rt, 0, none⟩), .int .i64 n] (refI R T fs) (fun _ : Unit => .int .i64 (findE fs n false)) (fun _ => refI R T (unrefF fs n)) (fun _ => True) := by
  intro F
  refine ctIntro Try.func28 rfl rfl (by kernel_rfl) ?_
  refine sSeq (rRunS [] [(4, .int .i64 0)] [] (by kernel_rfl) (sSeq (sSeq (sReg (lRunS 2 [] [(7, .int .i64 n), (6, .pointer (some ⟨R.rt, 0, none⟩))] [] (by kernel_rfl) ?_)))))
  refine lCallR [0, 1, 2, 3] [0, 1, 2, 3, 4] (c_rknown W base R T fs ht n true) (by kernel_rfl) (by kernel_rfl) (by kernel_rfl) (by kernel_rfl) (by kernel_rfl) ?_
  rcases findV_cases fs n false with ⟨hz, hv⟩ | ⟨hz, f, hg, h0, hv⟩
  · refine lRunS 1 [] [(5, .int .i64 (findE fs n false))] [] (by kernel_rfl) (lEnd (sSeq (sReg (lRunS 2 [] [(10, .bool (!(decide ((findE fs n false) = (0 : Int))))), (9, .int .i64 (findE fs n false))] [] (by kernel_rfl) (lOv (v := .bool true) (v0 := .bool (!(decide ((findE fs n false) = (0 : Int))))) 10 (ovT (bpN (bpD ((findE fs n false) = (0 : Int)))) hz) (by kernel_rfl) ?_)))))
    refine lEnd (sIfT (by kernel_rfl) (sSeq (rRunS [] [(4, .int .i64 (findE fs n false)), (11, .int .i64 (findE fs n false))] [] (by kernel_rfl) (sRet ?_))))
    have hF : unrefF fs n = fs := by unfold unrefF; rw [if_neg hz]
    refine wfRe (its' := [[(R.rt, .cells #[.slice (some ⟨R.pb, 0, none⟩) T.pools.length R.pc, .slice (some ⟨R.rb, 0, none⟩) 4096 4096, .slice (some ⟨R.yb, 0, none⟩) 4096 4096] 81)], [(R.pb, .cells (arr encPool T.pools R.pr) 47)], [(R.rb, .cells (arr encInt (refsL (unrefF fs n)) []) 3)], [(R.yb, .cells (arr encPg (pagesL (unrefF fs n)) []) 71)], F]) (by rw [hF]; rfl) ?_
    exact wRet () (0, 0) [] (.int .i64 (findE fs n false)) [.tmp 4] rfl (by kernel_rfl) (congrArg (Value.int .i64) rfl) trivial (fun _ h => h)
  · refine lOv (v := .int .i64 0) (v0 := .int .i64 (findE fs n false)) 8 (congrArg (Value.int .i64) hz) (by kernel_rfl) ?_
    obtain ⟨ho, hn0, hn1⟩ := of_get ht hg
    have hrf : rf fs n = f.refs := by simp [rf, hg]
    have hrb := ht.refs _ _ hg
    refine lRunS 1 [] [(5, .int .i64 0)] [] (by kernel_rfl) (lEnd (sSeq (rRunS [] [(10, .bool false), (9, .int .i64 0)] [] (by kernel_rfl) (sIfF (by kernel_rfl) (sSkip ?_)))))
    refine sSeq (sReg (lRunS 5 [(3, 1, 0)] [(16, .int .i64 n), (15, .slice (some ⟨R.rb, 0, none⟩) 4096 4096), (14, .pointer (some ⟨R.rt, 1, none⟩)), (13, .pointer (some ⟨R.rt, 0, none⟩)), (12, .pointer (some ⟨R.rt, 0, none⟩))] [R.rt] (by kernel_rfl) (lOv (v := .int .i64 (n.toNat : Int)) (v0 := .int .i64 n) 16 (congrArg (Value.int .i64) (by omega)) (by kernel_rfl) (lR (u := .pointer (some ⟨R.rb, n.toNat * 1, none⟩)) (runIndex0 (T := 39) (E := 3) (n := 4096) (c := 4096) (b := R.rb) (k := 1) (ik := .i64) n.toNat (by kernel_rfl) (by kernel_rfl) (by omega)) (by kernel_rfl) (by kernel_rfl) (by kernel_rfl) (lR (u := .int .i64 f.refs) (runLoadE1 (f := encInt) (T := 3) (b := R.rb) (T' := 3) (rest := []) (v := .int .i64 f.refs) (fun _ => rfl) (3, 0) (by kernel_rfl) ((refsL_get fs hn0 hn1).trans (congrArg some hrf)) rfl (by kernel_rfl)) (by kernel_rfl) (by kernel_rfl) (by kernel_rfl) ?_)))))
    refine lRunS 1 [] [(19, .int .i64 (IntKind.i64.wrap (f.refs - 1)))] [] (by kernel_rfl) (lOv 19 (iw (x := f.refs - 1) (by omega)) (by kernel_rfl) (lR (u := .pointer (some ⟨R.rb, n.toNat * 1, none⟩)) (runIndex0 (T := 39) (E := 3) (n := 4096) (c := 4096) (b := R.rb) (k := 1) (ik := .i64) n.toNat (by kernel_rfl) (by kernel_rfl) (by omega)) (by kernel_rfl) (by kernel_rfl) (by kernel_rfl) ?_))
    refine lX (u := fun _ => undef) (runStoreE1 (b := R.rb) (f := encInt) (T := 3) (T' := 3) (rest := []) (v := .int .i64 (f.refs - 1)) (i := 2) (j := 0) (fun _ => rfl) (f.refs - 1) (by kernel_rfl) ((refsL_get fs hn0 hn1).trans (congrArg some hrf)) rfl rfl (by kernel_rfl)) (by kernel_rfl) (by kernel_rfl) (fun _ => by kernel_rfl) ?_
    rintro ⟨⟩ -
    refine lEnd (sSeq (rRunS [] [(4, .int .i64 0)] [] (by kernel_rfl) (sRet ?_)))
    have hF : unrefF fs n = updF fs n (fun f => { f with refs := f.refs - 1 }) := by unfold unrefF; rw [if_pos hz]
    have hR : refsL (unrefF fs n) = (refsL fs).set n.toNat (f.refs - 1) := by rw [hF]; exact refsL_upd (fun _ => rfl) hg hn0 hn1
    have hY : pagesL (unrefF fs n) = pagesL fs := by rw [hF]; exact pagesL_same (fun _ => rfl) (fun _ => rfl)
    refine wfRe (its' := [[(R.rt, .cells #[.slice (some ⟨R.pb, 0, none⟩) T.pools.length R.pc, .slice (some ⟨R.rb, 0, none⟩) 4096 4096, .slice (some ⟨R.yb, 0, none⟩) 4096 4096] 81)], [(R.pb, .cells (arr encPool T.pools R.pr) 47)], [(R.rb, .cells (arr encInt (refsL (unrefF fs n)) []) 3)], [(R.yb, .cells (arr encPg (pagesL (unrefF fs n)) []) 71)], F]) (by rw [hR, hY]; rfl) ?_
    exact wRet () (0, 0) [] (.int .i64 0) [.tmp 4] rfl (by kernel_rfl) (congrArg (Value.int .i64) hz.symm) trivial (fun _ h => h)

theorem c_rRef (W : World) (base : List Blk) (R : RefS) (T : TabS) (fs : List FrS) (ht : TabOk T fs) (n : Int) :
    CF Try.prog W base 27 #[.pointer (some ⟨R.rt, 0, none⟩), .int .i64 n] (refI R T fs) (fun _ : Unit => .int .i64 (refE fs n)) (fun _ => refI R T (refF fs n)) (fun _ => True) := by
  intro F
  refine ctIntro Try.func27 rfl rfl (by kernel_rfl) ?_
  refine sSeq (rRunS [] [(4, .int .i64 0)] [] (by kernel_rfl) (sSeq (sSeq (sReg (lRunS 2 [] [(7, .int .i64 n), (6, .pointer (some ⟨R.rt, 0, none⟩))] [] (by kernel_rfl) ?_)))))
  refine lCallR [0, 1, 2, 3] [0, 1, 2, 3, 4] (c_rknown W base R T fs ht n true) (by kernel_rfl) (by kernel_rfl) (by kernel_rfl) (by kernel_rfl) (by kernel_rfl) ?_
  rcases findV_cases fs n false with ⟨hz, hv⟩ | ⟨hz, f, hg, h0, hv⟩
  · refine lRunS 1 [] [(5, .int .i64 (findE fs n false))] [] (by kernel_rfl) (lEnd (sSeq (sReg (lRunS 2 [] [(10, .bool (!(decide ((findE fs n false) = (0 : Int))))), (9, .int .i64 (findE fs n false))] [] (by kernel_rfl) (lOv (v := .bool true) (v0 := .bool (!(decide ((findE fs n false) = (0 : Int))))) 10 (ovT (bpN (bpD ((findE fs n false) = (0 : Int)))) hz) (by kernel_rfl) ?_)))))
    refine lEnd (sIfT (by kernel_rfl) (sSeq (rRunS [] [(4, .int .i64 (findE fs n false)), (11, .int .i64 (findE fs n false))] [] (by kernel_rfl) (sRet ?_))))
    have hF : refF fs n = fs := by unfold refF; rw [if_neg (by rw [refE_bad hz]; exact hz)]
    refine wfRe (its' := [[(R.rt, .cells #[.slice (some ⟨R.pb, 0, none⟩) T.pools.length R.pc, .slice (some ⟨R.rb, 0, none⟩) 4096 4096, .slice (some ⟨R.yb, 0, none⟩) 4096 4096] 81)], [(R.pb, .cells (arr encPool T.pools R.pr) 47)], [(R.rb, .cells (arr encInt (refsL (refF fs n)) []) 3)], [(R.yb, .cells (arr encPg (pagesL (refF fs n)) []) 71)], F]) (by rw [hF]; rfl) ?_
    exact wRet () (0, 0) [] (.int .i64 (findE fs n false)) [.tmp 4] rfl (by kernel_rfl) (congrArg (Value.int .i64) (refE_bad hz).symm) trivial (fun _ h => h)
  · refine lOv (v := .int .i64 0) (v0 := .int .i64 (findE fs n false)) 8 (congrArg (Value.int .i64) hz) (by kernel_rfl) ?_
    obtain ⟨ho, hn0, hn1⟩ := of_get ht hg
    have hrf : rf fs n = f.refs := by simp [rf, hg]
    have hrb := ht.refs _ _ hg
    refine lRunS 1 [] [(5, .int .i64 0)] [] (by kernel_rfl) (lEnd (sSeq (rRunS [] [(10, .bool false), (9, .int .i64 0)] [] (by kernel_rfl) (sIfF (by kernel_rfl) (sSkip ?_)))))
    refine sSeq (sSeq (sReg (lRunS 5 [(3, 1, 0)] [(16, .int .i64 n), (15, .slice (some ⟨R.rb, 0, none⟩) 4096 4096), (14, .pointer (some ⟨R.rt, 1, none⟩)), (13, .pointer (some ⟨R.rt, 0, none⟩)), (12, .pointer (some ⟨R.rt, 0, none⟩))] [R.rt] (by kernel_rfl) (lOv (v := .int .i64 (n.toNat : Int)) (v0 := .int .i64 n) 16 (congrArg (Value.int .i64) (by omega)) (by kernel_rfl) (lR (u := .pointer (some ⟨R.rb, n.toNat * 1, none⟩)) (runIndex0 (T := 39) (E := 3) (n := 4096) (c := 4096) (b := R.rb) (k := 1) (ik := .i64) n.toNat (by kernel_rfl) (by kernel_rfl) (by omega)) (by kernel_rfl) (by kernel_rfl) (by kernel_rfl) ?_)))))
    refine lR (u := .int .i64 f.refs) (runLoadE1 (f := encInt) (T := 3) (b := R.rb) (T' := 3) (rest := []) (v := .int .i64 f.refs) (fun _ => rfl) (3, 0) (by kernel_rfl) ((refsL_get fs hn0 hn1).trans (congrArg some hrf)) rfl (by kernel_rfl)) (by kernel_rfl) (by kernel_rfl) (by kernel_rfl) (lRunS 1 [] [(19, .bool (decide (f.refs = (60000 : Int))))] [] (by kernel_rfl) (lEnd ?_))
    refine sIfP (bpD (f.refs = (60000 : Int))) (by kernel_rfl) (fun h1 => ?_) (fun h1 => ?_)
    · refine sSeq (rRunS [] [(4, .int .i64 18)] [] (by kernel_rfl) (sRet ?_))
      have hF : refF fs n = fs := by unfold refF; rw [if_neg (by rw [refE_max hz hg h1]; decide)]
      refine wfRe (its' := [[(R.rt, .cells #[.slice (some ⟨R.pb, 0, none⟩) T.pools.length R.pc, .slice (some ⟨R.rb, 0, none⟩) 4096 4096, .slice (some ⟨R.yb, 0, none⟩) 4096 4096] 81)], [(R.pb, .cells (arr encPool T.pools R.pr) 47)], [(R.rb, .cells (arr encInt (refsL (refF fs n)) []) 3)], [(R.yb, .cells (arr encPg (pagesL (refF fs n)) []) 71)], F]) (by rw [hF]; rfl) ?_
      exact wRet () (0, 0) [] (.int .i64 18) [.tmp 4] rfl (by kernel_rfl) (congrArg (Value.int .i64) (refE_max hz hg h1).symm) trivial (fun _ h => h)
    · refine sSkip (sSeq (sReg (lRunS 5 [(3, 1, 0)] [(24, .int .i64 n), (23, .slice (some ⟨R.rb, 0, none⟩) 4096 4096), (22, .pointer (some ⟨R.rt, 1, none⟩)), (21, .pointer (some ⟨R.rt, 0, none⟩)), (20, .pointer (some ⟨R.rt, 0, none⟩))] [R.rt] (by kernel_rfl) (lOv (v := .int .i64 (n.toNat : Int)) (v0 := .int .i64 n) 24 (congrArg (Value.int .i64) (by omega)) (by kernel_rfl) (lR (u := .pointer (some ⟨R.rb, n.toNat * 1, none⟩)) (runIndex0 (T := 39) (E := 3) (n := 4096) (c := 4096) (b := R.rb) (k := 1) (ik := .i64) n.toNat (by kernel_rfl) (by kernel_rfl) (by omega)) (by kernel_rfl) (by kernel_rfl) (by kernel_rfl) ?_)))))
      refine lR (u := .int .i64 f.refs) (runLoadE1 (f := encInt) (T := 3) (b := R.rb) (T' := 3) (rest := []) (v := .int .i64 f.refs) (fun _ => rfl) (3, 0) (by kernel_rfl) ((refsL_get fs hn0 hn1).trans (congrArg some hrf)) rfl (by kernel_rfl)) (by kernel_rfl) (by kernel_rfl) (by kernel_rfl) (lRunS 1 [] [(27, .int .i64 (IntKind.i64.wrap (f.refs + 1)))] [] (by kernel_rfl) (lOv 27 (iw (x := f.refs + 1) (by omega)) (by kernel_rfl) (lR (u := .pointer (some ⟨R.rb, n.toNat * 1, none⟩)) (runIndex0 (T := 39) (E := 3) (n := 4096) (c := 4096) (b := R.rb) (k := 1) (ik := .i64) n.toNat (by kernel_rfl) (by kernel_rfl) (by omega)) (by kernel_rfl) (by kernel_rfl) (by kernel_rfl) ?_)))
      refine lX (u := fun _ => undef) (runStoreE1 (b := R.rb) (f := encInt) (T := 3) (T' := 3) (rest := []) (v := .int .i64 (f.refs + 1)) (i := 2) (j := 0) (fun _ => rfl) (f.refs + 1) (by kernel_rfl) ((refsL_get fs hn0 hn1).trans (congrArg some hrf)) rfl rfl (by kernel_rfl)) (by kernel_rfl) (by kernel_rfl) (fun _ => by kernel_rfl) ?_
      rintro ⟨⟩ -
      refine lEnd (sSeq (rRunS [] [(4, .int .i64 0)] [] (by kernel_rfl) (sRet ?_)))
      have hF : refF fs n = updF fs n (fun f => { f with refs := f.refs + 1 }) := by unfold refF; rw [if_pos (refE_ok hz hg hrb.2 h1)]
      have hR : refsL (refF fs n) = (refsL fs).set n.toNat (f.refs + 1) := by rw [hF]; exact refsL_upd (fun _ => rfl) hg hn0 hn1
      have hY : pagesL (refF fs n) = pagesL fs := by rw [hF]; exact pagesL_same (fun _ => rfl) (fun _ => rfl)
      refine wfRe (its' := [[(R.rt, .cells #[.slice (some ⟨R.pb, 0, none⟩) T.pools.length R.pc, .slice (some ⟨R.rb, 0, none⟩) 4096 4096, .slice (some ⟨R.yb, 0, none⟩) 4096 4096] 81)], [(R.pb, .cells (arr encPool T.pools R.pr) 47)], [(R.rb, .cells (arr encInt (refsL (refF fs n)) []) 3)], [(R.yb, .cells (arr encPg (pagesL (refF fs n)) []) 71)], F]) (by rw [hR, hY]; rfl) ?_
      exact wRet () (0, 0) [] (.int .i64 0) [.tmp 4] rfl (by kernel_rfl) (congrArg (Value.int .i64) (refE_ok hz hg hrb.2 h1).symm) trivial (fun _ h => h)

theorem pow_le12 {i : Nat} (h : (2 : Int) ^ i ≤ 4096) : i ≤ 12 := by
  refine Nat.le_of_not_lt fun hi => ?_
  obtain ⟨d, rfl⟩ : ∃ d, i = 13 + d := ⟨i - 13, by omega⟩
  have h2 : (1 : Int) ≤ 2 ^ d := Int.pow_pos (by decide)
  have h3 : (2 : Int) ^ (13 + d) = 8192 * 2 ^ d := by rw [Int.pow_add]; rfl
  omega
theorem pow_gt12 {i : Nat} (h : ¬ (2 : Int) ^ i ≤ 4096) : 13 ≤ i := by
  refine Nat.le_of_not_lt fun hi => h ?_
  have : ∀ i < 13, (2 : Int) ^ i ≤ 4096 := by decide
  exact this i hi
def pow2B (n : Int) : Bool := (List.range 13).any fun i => decide (n = 2 ^ i)
theorem pow2_yes {n : Int} {i : Nat} (hi : i ≤ 12) (h : n = 2 ^ i) : pow2B n = true := List.any_eq_true.2 ⟨i, List.mem_range.2 (by omega), by simpa using h⟩
theorem pow2_no {n : Int} (h : ∀ j, j < 13 → n ≠ 2 ^ j) : pow2B n = false := List.any_eq_false.2 fun i hi => by simpa using h i (List.mem_range.1 hi)

theorem c_power (W : World) (base : List Blk) (n : Int) :
    CP Try.prog W base 43 #[.int .i64 n] [] (.bool (pow2B n)) := by
  intro F
  refine ctIntro Try.func43 rfl rfl (by kernel_rfl) ?_
  refine sSeq (rRunS [] [(2, .bool false)] [] (by kernel_rfl) (sSeq (sSeq (rRunS [] [(3, .int .i64 1)] [] (by kernel_rfl) (sBlock ?_)))))
  refine sLoop (fun (x_ : Nat × Int) => match x_ with | (i, k) => [(3, .int .i64 k), (0, .int .i64 n)]) (fun (x_ : Nat × Int) => match x_ with | (i, k) => [F]) (fun (x_ : Nat × Int) => match x_ with | (i, k) => k = 2 ^ i ∧ i ≤ 13 ∧ ∀ j, j < i → n ≠ 2 ^ j) (fun (x_ : Nat × Int) => match x_ with | (i, k) => 13 - i) (0, 1) ⟨rfl, by omega, fun j h => by omega⟩ (by kernel_rfl) rfl ?_
  rintro ⟨i, k⟩ ⟨hk, hi, hI⟩
  have hk1 : 1 ≤ k := by rw [hk]; exact Int.pow_pos (by decide)
  refine sSeq (sSeq (rRunS [] [(5, .bool (decide (k ≤ (4096 : Int)))), (4, .int .i64 k)] [] (by kernel_rfl) ?_))
  refine sIfP (bpD (k ≤ (4096 : Int))) (by kernel_rfl) (fun h1 => ?_) (fun h1 => ?_)
  · refine sSkip (sSeq (sBlock (sSeq (rRunS [] [(10, .bool (decide (n = k))), (9, .int .i64 k), (8, .int .i64 n)] [] (by kernel_rfl) ?_))))
    refine sIfP (bpD (n = k)) (by kernel_rfl) (fun h2 => ?_) (fun h2 => ?_)
    · refine sSeq (rRunS [] [(2, .bool true)] [] (by kernel_rfl) (sRet ?_))
      exact wRet () (0, 0) [] (.bool true) [.tmp 2] rfl (by kernel_rfl) (congrArg Value.bool (pow2_yes (pow_le12 (hk ▸ h1)) (h2.trans hk)).symm) trivial (fun _ h => h)
    · refine sSkip (sEnd (sReg (lRunS 2 [] [(7, .int .i64 (IntKind.i64.wrap (k * 2))), (6, .int .i64 k)] [] (by kernel_rfl) (lOv 7 (iw (x := k * 2) (by omega)) (by kernel_rfl) (lRunS 1 [] [(3, .int .i64 (k * 2))] [] (by kernel_rfl) ?_)))))
      refine lEnd ?_
      exact sAgain (i + 1, k * 2) ⟨by rw [hk, Int.pow_succ], by have := pow_le12 (hk ▸ h1); omega, fun j hj => by by_cases e : j = i; (· subst e; rw [← hk]; exact h2); exact hI j (by omega)⟩ (by have := pow_le12 (hk ▸ h1); first | omega | (simp only []; omega)) (by kernel_rfl) rfl
  · refine sExit (by kernel_rfl) (sSeq (rRunS [] [(2, .bool false)] [] (by kernel_rfl) (sRet ?_)))
    exact wRet () (0, 0) [] (.bool false) [.tmp 2] rfl (by kernel_rfl) (congrArg Value.bool (pow2_no (fun j hj => hI j (by have := pow_gt12 (hk ▸ h1); omega))).symm) trivial (fun _ h => h)

end Go.Proofs.Ytinpojleegfadaa
