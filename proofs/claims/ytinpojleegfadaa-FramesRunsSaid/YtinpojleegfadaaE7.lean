/- The walk of Usage of the reference. -/
import Derived.Test.YtinpojleegfadaaProg
import Derived.Test.YtinpojleegfadaaGe
import Derived.Test.YtinpojleegfadaaE1
namespace Go.Proofs.Ytinpojleegfadaa
open Go Go.Sx Go.Sx.Fr
set_option maxRecDepth 100000
set_option linter.unusedSimpArgs false
set_option linter.unusedVariables false
theorem c_rUsage (W : World) (base : List Blk) (R : RefS) (T : TabS) (fs : List FrS) (ht : TabOk T fs) (s : ByteArray) :
    CP Try.prog W base 39 #[.pointer (some ⟨R.rt, 0, none⟩), .string s] (refI R T fs) (usageV T.pools fs s) := by
  intro F
  refine ctIntro Try.func39 rfl rfl (by kernel_rfl) ?_
  refine sSeq ?_
  refine rRunN [] (fun b1 => [(5, .int .i64 0), (4, .pointer (some ⟨b1, 0, none⟩))]) (fun b1 => []) (fun b1 => .cells #[.int .i64 0, .int .i64 0, .int .i64 0] 92) (fun b1 => []) (fun b1 => by kernel_rfl) (fun b1 => ?_)
  refine sSeq (sReg (lRunS 2 [] [(11, .string s), (10, .pointer (some ⟨R.rt, 0, none⟩))] [] (by kernel_rfl) ?_))
  refine lCallR [0, 1, 2, 3] [0, 1, 2, 3, 4, 5] (c_rnamed W base R T fs (by have := ht.len; omega) s) (by kernel_rfl) (by kernel_rfl) (by kernel_rfl) (by kernel_rfl) (by kernel_rfl) ?_
  rcases opt_cases (idxOf T.pools s) with hi | ⟨i, hi⟩
  · refine lOv (v := .int .i64 (-1)) (v0 := .int .i64 (optI (idxOf T.pools s))) 12 (congrArg (Value.int .i64) (by rw [hi]; rfl)) (by kernel_rfl) (lRunS 1 [] [(6, .int .i64 (-1))] [] (by kernel_rfl) (lEnd (sSeq (sSeq (rRunS [] [(14, .bool true), (13, .int .i64 (-1))] [] (by kernel_rfl) ?_)))))
    refine sIfT (by kernel_rfl) (sSeq (rRunU [(1, 6, 0)] [(5, .int .i64 22), (15, .agg #[.int .i64 0, .int .i64 0, .int .i64 0])] [(5, [(b1, .cells #[.int .i64 0, .int .i64 0, .int .i64 0] 92)])] [b1, b1, b1] (by kernel_rfl) (sRet ?_)))
    exact wRet () (6, 0) [b1, b1, b1] (.tuple #[.agg #[.int .i64 0, .int .i64 0, .int .i64 0], .int .i64 22]) [.cell 4 92, .tmp 5] rfl (by kernel_rfl) (by simp only [usageV, hi]) trivial (fun _ h => h.pick [0, 1, 2, 3, 4] (by kernel_rfl) (by kernel_rfl))
  · refine lOv (v := .int .i64 (i : Int)) (v0 := .int .i64 (optI (idxOf T.pools s))) 12 (congrArg (Value.int .i64) (by rw [hi]; rfl)) (by kernel_rfl) ?_
    obtain ⟨hil, p, hx, hpn⟩ := idxOf_some hi
    have hpb := ht.ps i p hx
    have hin : ∀ n, p.first ≤ n → n < p.first + p.count → ∃ f, getF fs n = some f := fun n h1 h2 => (ht.cov i p n hx h1 h2).imp fun _ h => h.1
    refine lRunS 1 [] [(6, .int .i64 (i : Int))] [] (by kernel_rfl) (lEnd (sSeq (sSeq (rRunS [] [(14, .bool (decide ((i : Int) < (0 : Int)))), (13, .int .i64 (i : Int))] [] (by kernel_rfl) ?_))))
    refine sIfP (bpD ((i : Int) < (0 : Int))) (by kernel_rfl) (fun h1 => ?_) (fun h1 => ?_)
    · exfalso; omega
    · refine sSkip (sSeq ?_)
      refine rRunN [] (fun b2 => [(7, .pointer (some ⟨b2, 0, none⟩))]) (fun b2 => []) (fun b2 => .cells #[.int .i64 0, .int .i64 0, .int .i64 0] 92) (fun b2 => []) (fun b2 => by kernel_rfl) (fun b2 => ?_)
      refine sSeq (rRunS [] [(8, .int .i64 0)] [] (by kernel_rfl) (sSeq (sSeq (sReg (lRunS 5 [(3, 1, 0)] [(20, .int .i64 (i : Int)), (19, .slice (some ⟨R.pb, 0, none⟩) T.pools.length R.pc), (18, .pointer (some ⟨R.rt, 0, none⟩)), (17, .pointer (some ⟨R.rt, 0, none⟩)), (16, .pointer (some ⟨R.rt, 0, none⟩))] [R.rt] (by kernel_rfl) ?_)))))
      refine lR (u := .pointer (some ⟨R.pb, i * 5, none⟩)) (runIndex0 (T := 22) (E := 47) (n := T.pools.length) (c := R.pc) (b := R.pb) (k := 5) (ik := .i64) i (by kernel_rfl) (by kernel_rfl) hil) (by kernel_rfl) (by kernel_rfl) (by kernel_rfl) (lRunS 1 [] [(22, .pointer (some ⟨R.pb, i * 5 + 1, none⟩))] [] (by kernel_rfl) (lR (u := .int .i64 p.first) (runLoadE (f := encPool) (T := 3) (b := R.pb) (k := 5) (T' := 47) (rest := R.pr) (v := .int .i64 p.first) (fun _ => rfl) 1 (2, 0) (by kernel_rfl) hx (by decide) rfl (by kernel_rfl)) (by kernel_rfl) (by kernel_rfl) (by kernel_rfl) (lRunS 1 [] [(9, .int .i64 p.first)] [] (by kernel_rfl) (lEnd (sBlock ?_)))))
      refine sLoop (fun (x_ : Int × Int × Int × Int × Int) => match x_ with | (f, fr, us, run, lg) => [(9, .int .i64 f), (8, .int .i64 run), (7, .pointer (some ⟨b2, 0, none⟩)), (6, .int .i64 (i : Int)), (4, .pointer (some ⟨b1, 0, none⟩)), (0, .pointer (some ⟨R.rt, 0, none⟩))]) (fun (x_ : Int × Int × Int × Int × Int) => match x_ with | (f, fr, us, run, lg) => [[(R.rt, .cells #[.slice (some ⟨R.pb, 0, none⟩) T.pools.length R.pc, .slice (some ⟨R.rb, 0, none⟩) 4096 4096, .slice (some ⟨R.yb, 0, none⟩) 4096 4096] 81)], [(R.pb, .cells (arr encPool T.pools R.pr) 47)], [(R.rb, .cells (arr encInt (refsL fs) []) 3)], [(R.yb, .cells (arr encPg (pagesL fs) []) 71)], F, [(b1, .cells #[.int .i64 0, .int .i64 0, .int .i64 0] 92)], [(b2, .cells #[.int .i64 fr, .int .i64 us, .int .i64 lg] 92)]]) (fun (x_ : Int × Int × Int × Int × Int) => match x_ with | (f, fr, us, run, lg) => p.first ≤ f ∧ f ≤ (p.first + p.count) ∧ fr = freeC fs p.first (f - p.first).toNat ∧ us = f - p.first - fr ∧ 0 ≤ run ∧ run ≤ f - p.first ∧ uS (freeB fs) ((p.first + p.count) - f).toNat f run lg = maxR (runsP fs p)) (fun (x_ : Int × Int × Int × Int × Int) => match x_ with | (f, fr, us, run, lg) => ((p.first + p.count) - f).toNat) (p.first, 0, 0, 0, 0) ⟨by omega, by omega, by simp [freeC, rangeI], by omega, by omega, by omega, uS_max⟩ (by kernel_rfl) rfl ?_
      rintro ⟨f, fr, us, run, lg⟩ ⟨hf0, hf1, hfr, hus0, hr0, hr1, hU⟩
      have hfc := freeC_le (fs := fs) (a := p.first) (k := (f - p.first).toNat)
      refine sSeq (sSeq (rQuiet (by kernel_rfl) (by kernel_rfl) (qRun 6 [(4, 1, 0)] [(29, .int .i64 (i : Int)), (28, .slice (some ⟨R.pb, 0, none⟩) T.pools.length R.pc), (27, .pointer (some ⟨R.rt, 0, none⟩)), (26, .pointer (some ⟨R.rt, 0, none⟩)), (25, .pointer (some ⟨R.rt, 0, none⟩)), (24, .int .i64 f)] [R.rt] (by kernel_rfl) (qR (u := .pointer (some ⟨R.pb, i * 5, none⟩)) (runIndex0 (T := 22) (E := 47) (n := T.pools.length) (c := R.pc) (b := R.pb) (k := 5) (ik := .i64) i (by kernel_rfl) (by kernel_rfl) hil) (by kernel_rfl) (by kernel_rfl) (by kernel_rfl) (qRun 1 [] [(31, .pointer (some ⟨R.pb, i * 5 + 1, none⟩))] [] (by kernel_rfl) ?_)))))
      refine qR (u := .int .i64 p.first) (runLoadE (f := encPool) (T := 3) (b := R.pb) (k := 5) (T' := 47) (rest := R.pr) (v := .int .i64 p.first) (fun _ => rfl) 1 (2, 0) (by kernel_rfl) hx (by decide) rfl (by kernel_rfl)) (by kernel_rfl) (by kernel_rfl) (by kernel_rfl) (qRun 5 [(3, 1, 0)] [(37, .int .i64 (i : Int)), (36, .slice (some ⟨R.pb, 0, none⟩) T.pools.length R.pc), (35, .pointer (some ⟨R.rt, 0, none⟩)), (34, .pointer (some ⟨R.rt, 0, none⟩)), (33, .pointer (some ⟨R.rt, 0, none⟩))] [R.rt] (by kernel_rfl) (qR (u := .pointer (some ⟨R.pb, i * 5, none⟩)) (runIndex0 (T := 22) (E := 47) (n := T.pools.length) (c := R.pc) (b := R.pb) (k := 5) (ik := .i64) i (by kernel_rfl) (by kernel_rfl) hil) (by kernel_rfl) (by kernel_rfl) (by kernel_rfl) (qRun 1 [] [(39, .pointer (some ⟨R.pb, i * 5 + 2, none⟩))] [] (by kernel_rfl) (qR (u := .int .i64 p.count) (runLoadE (f := encPool) (T := 3) (b := R.pb) (k := 5) (T' := 47) (rest := R.pr) (v := .int .i64 p.count) (fun _ => rfl) 2 (2, 0) (by kernel_rfl) hx (by decide) rfl (by kernel_rfl)) (by kernel_rfl) (by kernel_rfl) (by kernel_rfl) (qRun 1 [] [(41, .int .i64 (IntKind.i64.wrap (p.first + p.count)))] [] (by kernel_rfl) ?_)))))
      refine qOv 41 (iw (x := p.first + p.count) (by omega)) (by kernel_rfl) (qRun 1 [] [(42, .bool (decide (f < (p.first + p.count))))] [] (by kernel_rfl) (qEnd ?_))
      refine sIfP (bpD (f < (p.first + p.count))) (by kernel_rfl) (fun h2 => ?_) (fun h2 => ?_)
      · refine sSkip (sSeq (sBlock (sSeq (sSeq ?_))))
        obtain ⟨ff, hff⟩ := hin f (by omega) (by omega)
        have hrr : 0 ≤ rf fs f := by have := ht.refs _ _ hff; simp only [rf, hff]; omega
        refine sReg (lRunS 5 [(3, 1, 0)] [(49, .int .i64 f), (48, .slice (some ⟨R.rb, 0, none⟩) 4096 4096), (47, .pointer (some ⟨R.rt, 1, none⟩)), (46, .pointer (some ⟨R.rt, 0, none⟩)), (45, .pointer (some ⟨R.rt, 0, none⟩))] [R.rt] (by kernel_rfl) (lOv (v := .int .i64 (f.toNat : Int)) (v0 := .int .i64 f) 49 (congrArg (Value.int .i64) (by omega)) (by kernel_rfl) (lR (u := .pointer (some ⟨R.rb, f.toNat * 1, none⟩)) (runIndex0 (T := 39) (E := 3) (n := 4096) (c := 4096) (b := R.rb) (k := 1) (ik := .i64) f.toNat (by kernel_rfl) (by kernel_rfl) (by omega)) (by kernel_rfl) (by kernel_rfl) (by kernel_rfl) (lR (u := .int .i64 (rf fs f)) (runLoadE1 (f := encInt) (T := 3) (b := R.rb) (T' := 3) (rest := []) (v := .int .i64 (rf fs f)) (fun _ => rfl) (3, 0) (by kernel_rfl) (refsL_get fs (by omega) (by omega)) rfl (by kernel_rfl)) (by kernel_rfl) (by kernel_rfl) (by kernel_rfl) (lRunS 1 [] [(52, .bool (decide ((rf fs f) > (0 : Int))))] [] (by kernel_rfl) ?_)))))
        refine lEnd ?_
        refine sIfP (bpD ((rf fs f) > (0 : Int))) (by kernel_rfl) (fun h3 => ?_) (fun h3 => ?_)
        · refine sSeq (sReg (lRunS 3 [(1, 7, 0)] [(55, .int .i64 (IntKind.i64.wrap (us + 1))), (54, .int .i64 us), (53, .pointer (some ⟨b2, 1, none⟩))] [b2] (by kernel_rfl) (lOv 55 (iw (x := us + 1) (by omega)) (by kernel_rfl) (lRunU 2 [(1, 7, 0)] [(56, .pointer (some ⟨b2, 1, none⟩))] [(6, [(b2, .cells #[.int .i64 fr, .int .i64 (us + 1), .int .i64 lg] 92)])] [b2] (by kernel_rfl) (lEnd ?_)))))
          refine sSeq (rRunS [] [(8, .int .i64 0)] [] (by kernel_rfl) (sExit (by kernel_rfl) (sReg (lRunS 2 [] [(44, .int .i64 (IntKind.i64.wrap (f + 1))), (43, .int .i64 f)] [] (by kernel_rfl) (lOv 44 (iw (x := f + 1) (by omega)) (by kernel_rfl) ?_)))))
          refine lRunS 1 [] [(9, .int .i64 (f + 1))] [] (by kernel_rfl) (lEnd ?_)
          have hfb : freeB fs f = false := by rw [freeB_rf ⟨ff, hff⟩]; simp; omega
          have hfs : freeC fs p.first (f + 1 - p.first).toNat = fr + 0 := by rw [freeC_step (by omega), ← hfr, hfb]; rfl
          have hus := uS_step (fr := freeB fs) (f := f) (e := (p.first + p.count)) (run := run) (lg := lg) (run2 := 0) (lg2 := lg) (by omega) (fun h => by rw [hfb] at h; cases h) (fun h => ⟨rfl, rfl⟩)
          exact sAgain (f + 1, fr, us + 1, 0, lg) ⟨by omega, by omega, by omega, by omega, by omega, by omega, hus.symm.trans hU⟩ (by first | omega | (simp only []; omega)) (by kernel_rfl) rfl
        · refine sSkip (sSeq (sReg (lRunS 3 [(1, 7, 0)] [(59, .int .i64 (IntKind.i64.wrap (fr + 1))), (58, .int .i64 fr), (57, .pointer (some ⟨b2, 0, none⟩))] [b2] (by kernel_rfl) (lOv 59 (iw (x := fr + 1) (by omega)) (by kernel_rfl) (lRunU 2 [(1, 7, 0)] [(60, .pointer (some ⟨b2, 0, none⟩))] [(6, [(b2, .cells #[.int .i64 (fr + 1), .int .i64 us, .int .i64 lg] 92)])] [b2] (by kernel_rfl) ?_)))))
          refine lEnd (sSeq (sReg (lRunS 2 [] [(62, .int .i64 (IntKind.i64.wrap (run + 1))), (61, .int .i64 run)] [] (by kernel_rfl) (lOv 62 (iw (x := run + 1) (by omega)) (by kernel_rfl) (lRunS 1 [] [(8, .int .i64 (run + 1))] [] (by kernel_rfl) ?_)))))
          refine lEnd (rRunU [(1, 7, 0), (5, 7, 0)] [(67, .pointer (some ⟨b2, 2, none⟩)), (66, .int .i64 (if (run + 1) > lg then (run + 1) else lg)), (65, .int .i64 (run + 1)), (64, .int .i64 lg), (63, .pointer (some ⟨b2, 2, none⟩))] [(6, [(b2, .cells #[.int .i64 (fr + 1), .int .i64 us, .int .i64 (if (run + 1) > lg then (run + 1) else lg)] 92)])] [b2, b2] (by kernel_rfl) (sEnd (sReg (lRunS 2 [] [(44, .int .i64 (IntKind.i64.wrap (f + 1))), (43, .int .i64 f)] [] (by kernel_rfl) (lOv 44 (iw (x := f + 1) (by omega)) (by kernel_rfl) ?_)))))
          refine lRunS 1 [] [(9, .int .i64 (f + 1))] [] (by kernel_rfl) (lEnd ?_)
          have hfb : freeB fs f = true := by rw [freeB_rf ⟨ff, hff⟩]; simp; omega
          have hfs : freeC fs p.first (f + 1 - p.first).toNat = fr + 1 := by rw [freeC_step (by omega), ← hfr, hfb]; rfl
          have hus := uS_step (fr := freeB fs) (f := f) (e := (p.first + p.count)) (run := run) (lg := lg) (run2 := run + 1) (lg2 := if (run + 1) > lg then (run + 1) else lg) (by omega) (fun h => ⟨rfl, rfl⟩) (fun h => by rw [hfb] at h; cases h)
          exact sAgain (f + 1, fr + 1, us, run + 1, if (run + 1) > lg then (run + 1) else lg) ⟨by omega, by omega, by omega, by omega, by omega, by omega, hus.symm.trans hU⟩ (by first | omega | (simp only []; omega)) (by kernel_rfl) rfl
      · refine sExit (by kernel_rfl) (sSeq (rRunU [(0, 7, 0), (1, 6, 0)] [(5, .int .i64 0), (68, .agg #[.int .i64 fr, .int .i64 us, .int .i64 lg])] [(5, [(b1, .cells #[.int .i64 fr, .int .i64 us, .int .i64 lg] 92)])] [b1, b1, b1, b2, b2, b2] (by kernel_rfl) (sRet ?_)))
        have hA : sumR (runsP fs p) = fr := by rw [sumR_freeC, hfr, show (f - p.first).toNat = p.count.toNat by omega]
        have hB : p.count - fr = us := by omega
        have hC : maxR (runsP fs p) = lg := by rw [← hU, show ((p.first + p.count) - f).toNat = 0 by omega]; rfl
        exact wRet () (6, 0) [b1, b1, b1] (.tuple #[.agg #[.int .i64 fr, .int .i64 us, .int .i64 lg], .int .i64 0]) [.cell 4 92, .tmp 5] rfl (by kernel_rfl) (by simp only [usageV, hi, hx]; rw [hA, hC, hB]) trivial (fun _ h => h.pick [0, 1, 2, 3, 4] (by kernel_rfl) (by kernel_rfl))

end Go.Proofs.Ytinpojleegfadaa
