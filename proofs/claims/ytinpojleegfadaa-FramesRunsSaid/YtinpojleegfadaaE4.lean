/- The walk of run of the reference. -/
import Derived.Test.YtinpojleegfadaaProg
import Derived.Test.YtinpojleegfadaaFz
import Derived.Test.YtinpojleegfadaaE1
import Derived.Test.YtinpojleegfadaaE3
namespace Go.Proofs.Ytinpojleegfadaa
open Go.Sx Go.Sx.Fr
set_option maxRecDepth 100000
set_option linter.unusedSimpArgs false
set_option linter.unusedVariables false
def okB (fs : List FrS) (n al : Int) (f : Int) : Bool := decide (f.tmod al = 0) && decide (∀ j : Nat, j < n.toNat → freeB fs (f + j) = true)
def runE (fs : List FrS) (p : PoolS) (n al : Int) (top : Bool) : Int := freeS (okB fs n al) top (p.first + p.count - n + 1 - p.first).toNat p.first (-1)
theorem okB_of {fs : List FrS} {n al f k : Int} {ok : Bool} (hn : 1 ≤ n) (hk0 : f ≤ k) (hk1 : k ≤ f + n) (hT : ok = true → f.tmod al = 0 ∧ ∀ j, f ≤ j → j < k → freeB fs j = true) (hF : ok = false → okB fs n al f = false)
    (hx : ¬ (ok = true ∧ k < f + n)) : okB fs n al f = ok := by
  cases ok with
  | false => exact hF rfl
  | true =>
    obtain ⟨h1, h2⟩ := hT rfl
    have hk : k = f + n := by have : ¬ k < f + n := fun e => hx ⟨rfl, e⟩; omega
    subst hk
    unfold okB
    rw [decide_eq_true h1, decide_eq_true (fun j hj => h2 _ (by omega) (by omega))]; rfl
theorem okB_no {fs : List FrS} {n al f k : Int} (hk0 : f ≤ k) (hk1 : k < f + n) (h : freeB fs k = false) : okB fs n al f = false := by
  unfold okB
  rw [decide_eq_false (p := ∀ j : Nat, j < n.toNat → freeB fs (f + j) = true) (fun e => by
    have := e (k - f).toNat (by omega)
    rw [show f + ((k - f).toNat : Int) = k by omega, h] at this; cases this)]
  simp
theorem okB_mod {fs : List FrS} {n al f : Int} (h : ¬ f.tmod al = 0) : okB fs n al f = false := by
  unfold okB; rw [decide_eq_false h]; rfl

theorem c_rrun (W : World) (base : List Blk) (R : RefS) (T : TabS) (fs : List FrS) (p : PoolS) (hp0 : 0 ≤ p.first) (hp1 : 0 ≤ p.count) (hp2 : p.first + p.count ≤ 4096) (hin : ∀ n, p.first ≤ n → n < p.first + p.count → ∃ f, getF fs n = some f) (n al : Int) (hn1 : 1 ≤ n) (hn2 : n ≤ 4096) (hal : 1 ≤ al) (top : Bool) :
    CP Try.prog W base 46 #[.pointer (some ⟨R.rt, 0, none⟩), .agg #[.string p.name, .int .i64 p.first, .int .i64 p.count, .bool p.general, .bool p.keep], .int .i64 n, .int .i64 al, .bool top] (refI R T fs) (.int .i64 (runE fs p n al top)) := by
  intro F
  refine ctIntro Try.func46 rfl rfl (by kernel_rfl) ?_
  refine sSeq ?_
  refine rRunN [] (fun b1 => [(10, .int .i64 0), (6, .pointer (some ⟨b1, 0, none⟩))]) (fun b1 => []) (fun b1 => .cells #[.string p.name, .int .i64 p.first, .int .i64 p.count, .bool p.general, .bool p.keep] 47) (fun b1 => []) (fun b1 => by kernel_rfl) (fun b1 => ?_)
  refine sSeq (rRunS [] [(11, .int .i64 (-1))] [] (by kernel_rfl) (sSeq (sSeq (rRunS [(1, 6, 0)] [(12, .int .i64 p.first), (16, .int .i64 p.first), (15, .pointer (some ⟨b1, 1, none⟩))] [b1] (by kernel_rfl) (sBlock ?_)))))
  refine sLoop (fun (x_ : Int × Int) => match x_ with | (f, out) => [(12, .int .i64 f), (11, .int .i64 out), (6, .pointer (some ⟨b1, 0, none⟩)), (4, .bool top), (3, .int .i64 al), (2, .int .i64 n), (0, .pointer (some ⟨R.rt, 0, none⟩))]) (fun (x_ : Int × Int) => match x_ with | (f, out) => [[(R.rt, .cells #[.slice (some ⟨R.pb, 0, none⟩) T.pools.length R.pc, .slice (some ⟨R.rb, 0, none⟩) 4096 4096, .slice (some ⟨R.yb, 0, none⟩) 4096 4096] 81)], [(R.pb, .cells (arr encPool T.pools R.pr) 47)], [(R.rb, .cells (arr encInt (refsL fs) []) 3)], [(R.yb, .cells (arr encPg (pagesL fs) []) 71)], F, [(b1, .cells #[.string p.name, .int .i64 p.first, .int .i64 p.count, .bool p.general, .bool p.keep] 47)]]) (fun (x_ : Int × Int) => match x_ with | (f, out) => p.first ≤ f ∧ (f = p.first ∨ f ≤ (p.first + p.count - n + 1)) ∧ freeS (okB fs n al) top ((p.first + p.count - n + 1) - f).toNat f out = runE fs p n al top) (fun (x_ : Int × Int) => match x_ with | (f, out) => ((p.first + p.count - n + 1) - f).toNat) (p.first, -1) ⟨by omega, .inl rfl, rfl⟩ (by kernel_rfl) rfl ?_
  rintro ⟨f, out⟩ ⟨hf0, hf1, hS⟩
  refine sSeq (sSeq (sReg (lRunS 3 [] [(19, .int .i64 (IntKind.i64.wrap (f + n))), (18, .int .i64 n), (17, .int .i64 f)] [] (by kernel_rfl) (lOv 19 (iw (x := f + n) (by omega)) (by kernel_rfl) (lRunS 5 [(1, 6, 0), (3, 6, 0)] [(24, .int .i64 (IntKind.i64.wrap (p.first + p.count))), (23, .int .i64 p.count), (22, .pointer (some ⟨b1, 2, none⟩)), (21, .int .i64 p.first), (20, .pointer (some ⟨b1, 1, none⟩))] [b1, b1] (by kernel_rfl) ?_)))))
  refine lOv 24 (iw (x := p.first + p.count) (by omega)) (by kernel_rfl) (lRunS 1 [] [(25, .bool (decide ((f + n) ≤ (p.first + p.count))))] [] (by kernel_rfl) (lEnd ?_))
  refine sIfP (bpD ((f + n) ≤ (p.first + p.count))) (by kernel_rfl) (fun h1 => ?_) (fun h1 => ?_)
  · refine sSkip (sSeq (sBlock (sSeq (sReg (lRunS 2 [] [(29, .int .i64 al), (28, .int .i64 f)] [] (by kernel_rfl) ?_)))))
    refine lR (u := .int .i64 (f.tmod al)) (runRem (T := 3) (o1 := (.tmp 28)) (o2 := (.tmp 29)) (k := .i64) (x := f) (y := al) (by omega)) (by kernel_rfl) (by kernel_rfl) (by kernel_rfl) (lRunS 2 [] [(13, .bool (decide ((f.tmod al) = (0 : Int)))), (31, .bool (decide ((f.tmod al) = (0 : Int))))] [] (by kernel_rfl) (lEnd (sSeq (sSeq (rRunS [] [(14, .int .i64 f), (32, .int .i64 f)] [] (by kernel_rfl) ?_)))))
    refine sBlock ?_
    refine sLoop (fun (x_ : Bool × Int) => match x_ with | (ok, k) => [(14, .int .i64 k), (13, .bool ok), (12, .int .i64 f), (11, .int .i64 out), (6, .pointer (some ⟨b1, 0, none⟩)), (4, .bool top), (3, .int .i64 al), (2, .int .i64 n), (0, .pointer (some ⟨R.rt, 0, none⟩))]) (fun (x_ : Bool × Int) => match x_ with | (ok, k) => [[(R.rt, .cells #[.slice (some ⟨R.pb, 0, none⟩) T.pools.length R.pc, .slice (some ⟨R.rb, 0, none⟩) 4096 4096, .slice (some ⟨R.yb, 0, none⟩) 4096 4096] 81)], [(R.pb, .cells (arr encPool T.pools R.pr) 47)], [(R.rb, .cells (arr encInt (refsL fs) []) 3)], [(R.yb, .cells (arr encPg (pagesL fs) []) 71)], F, [(b1, .cells #[.string p.name, .int .i64 p.first, .int .i64 p.count, .bool p.general, .bool p.keep] 47)]]) (fun (x_ : Bool × Int) => match x_ with | (ok, k) => f ≤ k ∧ k ≤ f + n ∧ (ok = true → f.tmod al = 0 ∧ ∀ j, f ≤ j → j < k → freeB fs j = true) ∧ (ok = false → okB fs n al f = false)) (fun (x_ : Bool × Int) => match x_ with | (ok, k) => (f + n - k).toNat) (decide ((f.tmod al) = (0 : Int)), f) ⟨by omega, by omega, fun h => ⟨of_decide_eq_true h, fun j a b => by omega⟩, fun h => okB_mod (of_decide_eq_false h)⟩ (by kernel_rfl) rfl ?_
    rintro ⟨ok, k⟩ ⟨hk0, hk1, hT, hF⟩
    refine sSeq (sSeq (sReg (lRunS 2 [] [(34, .bool ok), (33, .bool ok)] [] (by kernel_rfl) ?_)))
    rcases Classical.em (ok = true) with h2 | h2
    · refine lOv (v := .bool true) (v0 := .bool ok) 34 (ovT (bpR ok) h2) (by kernel_rfl) (lRunS 4 [] [(38, .int .i64 (IntKind.i64.wrap (f + n))), (37, .int .i64 n), (36, .int .i64 f), (35, .int .i64 k)] [] (by kernel_rfl) (lOv 38 (iw (x := f + n) (by omega)) (by kernel_rfl) (lRunS 2 [] [(40, .bool (decide (k < (f + n)))), (39, .bool (decide (k < (f + n))))] [] (by kernel_rfl) (lEnd ?_))))
      refine sIfP (bpD (k < (f + n))) (by kernel_rfl) (fun h3 => ?_) (fun h3 => ?_)
      · refine sSkip (sSeq (sBlock (sReg (lRunS 5 [(3, 1, 0)] [(47, .int .i64 k), (46, .slice (some ⟨R.rb, 0, none⟩) 4096 4096), (45, .pointer (some ⟨R.rt, 1, none⟩)), (44, .pointer (some ⟨R.rt, 0, none⟩)), (43, .pointer (some ⟨R.rt, 0, none⟩))] [R.rt] (by kernel_rfl) (lOv (v := .int .i64 (k.toNat : Int)) (v0 := .int .i64 k) 47 (congrArg (Value.int .i64) (by omega)) (by kernel_rfl) ?_)))))
        refine lR (u := .pointer (some ⟨R.rb, k.toNat * 1, none⟩)) (runIndex0 (T := 39) (E := 3) (n := 4096) (c := 4096) (b := R.rb) (k := 1) (ik := .i64) k.toNat (by kernel_rfl) (by kernel_rfl) (by omega)) (by kernel_rfl) (by kernel_rfl) (by kernel_rfl) (lR (u := .int .i64 (rf fs k)) (runLoadE1 (f := encInt) (T := 3) (b := R.rb) (T' := 3) (rest := []) (v := .int .i64 (rf fs k)) (fun _ => rfl) (3, 0) (by kernel_rfl) (refsL_get fs (by omega) (by omega)) rfl (by kernel_rfl)) (by kernel_rfl) (by kernel_rfl) (by kernel_rfl) (lRunS 2 [] [(13, .bool (decide ((rf fs k) = (0 : Int)))), (50, .bool (decide ((rf fs k) = (0 : Int))))] [] (by kernel_rfl) (lEnd (sEnd (sReg ?_)))))
        refine lRunS 2 [] [(42, .int .i64 (IntKind.i64.wrap (k + 1))), (41, .int .i64 k)] [] (by kernel_rfl) (lOv 42 (iw (x := k + 1) (by omega)) (by kernel_rfl) (lRunS 1 [] [(14, .int .i64 (k + 1))] [] (by kernel_rfl) (lEnd ?_)))
        exact sAgain (decide ((rf fs k) = (0 : Int)), k + 1) ⟨by omega, by omega, fun h => ⟨(hT h2).1, fun j a b => (Int.lt_or_le j k).elim ((hT h2).2 j a) fun hj => (show k = j by omega) ▸ (by rw [freeB_rf (hin k (by omega) (by omega))]; exact h)⟩, fun h => okB_no (k := k) (by omega) (by omega) (by rw [freeB_rf (hin k (by omega) (by omega))]; exact h)⟩ (by first | omega | (simp only []; omega)) (by kernel_rfl) rfl
      · have hok := okB_of (fs := fs) (al := al) hn1 hk0 hk1 hT hF (fun e => h3 e.2)
        refine sExit (by kernel_rfl) (sSeq (sReg (lRunS 1 [] [(51, .bool ok)] [] (by kernel_rfl) ?_)))
        rcases Classical.em (ok = true) with h4 | h4
        · refine lOv (v := .bool true) (v0 := .bool ok) 51 (ovT (bpR ok) h4) (by kernel_rfl) (lRunS 3 [] [(54, .bool (decide (out < (0 : Int)))), (53, .int .i64 out), (52, .bool true)] [] (by kernel_rfl) ?_)
          rcases Classical.em (out < (0 : Int)) with h5 | h5
          · refine lOv (v := .bool true) (v0 := .bool (decide (out < (0 : Int)))) 54 (ovT (bpD (out < (0 : Int))) h5) (by kernel_rfl) (lRunS 4 [] [(58, .bool true), (57, .bool true), (56, undef), (55, .bool true)] [] (by kernel_rfl) (lEnd (sIfT (by kernel_rfl) (rRunS [] [(11, .int .i64 f), (59, .int .i64 f)] [] (by kernel_rfl) (sEnd ?_)))))
            refine sReg (lRunS 2 [] [(27, .int .i64 (IntKind.i64.wrap (f + 1))), (26, .int .i64 f)] [] (by kernel_rfl) (lOv 27 (iw (x := f + 1) (by omega)) (by kernel_rfl) (lRunS 1 [] [(12, .int .i64 (f + 1))] [] (by kernel_rfl) (lEnd ?_))))
            exact sAgain (f + 1, f) ⟨by omega, by omega, by rw [← hS]; exact (freeS_step (by omega) (by rw [hok]; simp_all <;> omega)).symm⟩ (by first | omega | (simp only []; omega)) (by kernel_rfl) rfl
          · refine lOv (v := .bool false) (v0 := .bool (decide (out < (0 : Int)))) 54 (ovF (bpD (out < (0 : Int))) h5) (by kernel_rfl) (lRunS 4 [] [(58, .bool top), (57, .bool top), (56, .bool top), (55, .bool false)] [] (by kernel_rfl) (lEnd ?_))
            refine sIfP (bpR top) (by kernel_rfl) (fun h6 => ?_) (fun h6 => ?_)
            · refine rRunS [] [(11, .int .i64 f), (59, .int .i64 f)] [] (by kernel_rfl) (sEnd (sReg (lRunS 2 [] [(27, .int .i64 (IntKind.i64.wrap (f + 1))), (26, .int .i64 f)] [] (by kernel_rfl) (lOv 27 (iw (x := f + 1) (by omega)) (by kernel_rfl) (lRunS 1 [] [(12, .int .i64 (f + 1))] [] (by kernel_rfl) ?_)))))
              refine lEnd ?_
              exact sAgain (f + 1, f) ⟨by omega, by omega, by rw [← hS]; exact (freeS_step (by omega) (by rw [hok]; simp_all <;> omega)).symm⟩ (by first | omega | (simp only []; omega)) (by kernel_rfl) rfl
            · refine sSkip (sEnd (sReg (lRunS 2 [] [(27, .int .i64 (IntKind.i64.wrap (f + 1))), (26, .int .i64 f)] [] (by kernel_rfl) (lOv 27 (iw (x := f + 1) (by omega)) (by kernel_rfl) (lRunS 1 [] [(12, .int .i64 (f + 1))] [] (by kernel_rfl) ?_)))))
              refine lEnd ?_
              exact sAgain (f + 1, out) ⟨by omega, by omega, by rw [← hS]; exact (freeS_step (by omega) (by rw [hok]; simp_all <;> omega)).symm⟩ (by first | omega | (simp only []; omega)) (by kernel_rfl) rfl
        · refine lOv (v := .bool false) (v0 := .bool ok) 51 (ovF (bpR ok) h4) (by kernel_rfl) (lRunS 7 [] [(58, .bool false), (57, undef), (56, undef), (55, undef), (54, undef), (53, undef), (52, .bool false)] [] (by kernel_rfl) (lEnd (sIfF (by kernel_rfl) (sSkip (sEnd ?_)))))
          refine sReg (lRunS 2 [] [(27, .int .i64 (IntKind.i64.wrap (f + 1))), (26, .int .i64 f)] [] (by kernel_rfl) (lOv 27 (iw (x := f + 1) (by omega)) (by kernel_rfl) (lRunS 1 [] [(12, .int .i64 (f + 1))] [] (by kernel_rfl) (lEnd ?_))))
          exact sAgain (f + 1, out) ⟨by omega, by omega, by rw [← hS]; exact (freeS_step (by omega) (by rw [hok]; simp_all <;> omega)).symm⟩ (by first | omega | (simp only []; omega)) (by kernel_rfl) rfl
    · refine lOv (v := .bool false) (v0 := .bool ok) 34 (ovF (bpR ok) h2) (by kernel_rfl) ?_
      have hok := okB_of (fs := fs) (al := al) hn1 hk0 hk1 hT hF (fun e => h2 e.1)
      refine lRunS 6 [] [(40, .bool false), (39, undef), (38, undef), (37, undef), (36, undef), (35, undef)] [] (by kernel_rfl) (lEnd (sIfF (by kernel_rfl) (sExit (by kernel_rfl) (sSeq (sReg ?_)))))
      refine lRunS 1 [] [(51, .bool ok)] [] (by kernel_rfl) ?_
      rcases Classical.em (ok = true) with h7 | h7
      · refine lOv (v := .bool true) (v0 := .bool ok) 51 (ovT (bpR ok) h7) (by kernel_rfl) (lRunS 3 [] [(54, .bool (decide (out < (0 : Int)))), (53, .int .i64 out), (52, .bool true)] [] (by kernel_rfl) ?_)
        rcases Classical.em (out < (0 : Int)) with h8 | h8
        · refine lOv (v := .bool true) (v0 := .bool (decide (out < (0 : Int)))) 54 (ovT (bpD (out < (0 : Int))) h8) (by kernel_rfl) (lRunS 4 [] [(58, .bool true), (57, .bool true), (56, undef), (55, .bool true)] [] (by kernel_rfl) (lEnd (sIfT (by kernel_rfl) (rRunS [] [(11, .int .i64 f), (59, .int .i64 f)] [] (by kernel_rfl) (sEnd ?_)))))
          refine sReg (lRunS 2 [] [(27, .int .i64 (IntKind.i64.wrap (f + 1))), (26, .int .i64 f)] [] (by kernel_rfl) (lOv 27 (iw (x := f + 1) (by omega)) (by kernel_rfl) (lRunS 1 [] [(12, .int .i64 (f + 1))] [] (by kernel_rfl) (lEnd ?_))))
          exact sAgain (f + 1, f) ⟨by omega, by omega, by rw [← hS]; exact (freeS_step (by omega) (by rw [hok]; simp_all <;> omega)).symm⟩ (by first | omega | (simp only []; omega)) (by kernel_rfl) rfl
        · refine lOv (v := .bool false) (v0 := .bool (decide (out < (0 : Int)))) 54 (ovF (bpD (out < (0 : Int))) h8) (by kernel_rfl) (lRunS 4 [] [(58, .bool top), (57, .bool top), (56, .bool top), (55, .bool false)] [] (by kernel_rfl) (lEnd ?_))
          refine sIfP (bpR top) (by kernel_rfl) (fun h9 => ?_) (fun h9 => ?_)
          · refine rRunS [] [(11, .int .i64 f), (59, .int .i64 f)] [] (by kernel_rfl) (sEnd (sReg (lRunS 2 [] [(27, .int .i64 (IntKind.i64.wrap (f + 1))), (26, .int .i64 f)] [] (by kernel_rfl) (lOv 27 (iw (x := f + 1) (by omega)) (by kernel_rfl) (lRunS 1 [] [(12, .int .i64 (f + 1))] [] (by kernel_rfl) ?_)))))
            refine lEnd ?_
            exact sAgain (f + 1, f) ⟨by omega, by omega, by rw [← hS]; exact (freeS_step (by omega) (by rw [hok]; simp_all <;> omega)).symm⟩ (by first | omega | (simp only []; omega)) (by kernel_rfl) rfl
          · refine sSkip (sEnd (sReg (lRunS 2 [] [(27, .int .i64 (IntKind.i64.wrap (f + 1))), (26, .int .i64 f)] [] (by kernel_rfl) (lOv 27 (iw (x := f + 1) (by omega)) (by kernel_rfl) (lRunS 1 [] [(12, .int .i64 (f + 1))] [] (by kernel_rfl) ?_)))))
            refine lEnd ?_
            exact sAgain (f + 1, out) ⟨by omega, by omega, by rw [← hS]; exact (freeS_step (by omega) (by rw [hok]; simp_all <;> omega)).symm⟩ (by first | omega | (simp only []; omega)) (by kernel_rfl) rfl
      · refine lOv (v := .bool false) (v0 := .bool ok) 51 (ovF (bpR ok) h7) (by kernel_rfl) (lRunS 7 [] [(58, .bool false), (57, undef), (56, undef), (55, undef), (54, undef), (53, undef), (52, .bool false)] [] (by kernel_rfl) (lEnd (sIfF (by kernel_rfl) (sSkip (sEnd ?_)))))
        refine sReg (lRunS 2 [] [(27, .int .i64 (IntKind.i64.wrap (f + 1))), (26, .int .i64 f)] [] (by kernel_rfl) (lOv 27 (iw (x := f + 1) (by omega)) (by kernel_rfl) (lRunS 1 [] [(12, .int .i64 (f + 1))] [] (by kernel_rfl) (lEnd ?_))))
        exact sAgain (f + 1, out) ⟨by omega, by omega, by rw [← hS]; exact (freeS_step (by omega) (by rw [hok]; simp_all <;> omega)).symm⟩ (by first | omega | (simp only []; omega)) (by kernel_rfl) rfl
  · refine sExit (by kernel_rfl) (sSeq (rRunS [] [(10, .int .i64 out), (60, .int .i64 out)] [] (by kernel_rfl) (sRet ?_)))
    exact wRet () (0, 0) [] (.int .i64 out) [.tmp 10] rfl (by kernel_rfl) (congrArg (Value.int .i64) (by rw [← hS, show ((p.first + p.count - n + 1) - f).toNat = 0 by omega]; rfl)) trivial (fun _ h => h.pick [0, 1, 2, 3, 4] (by kernel_rfl) (by kernel_rfl))

end Go.Proofs.Ytinpojleegfadaa
