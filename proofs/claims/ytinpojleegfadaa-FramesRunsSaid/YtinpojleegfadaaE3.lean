/- The walks of free and take of the reference. -/
import Derived.Test.YtinpojleegfadaaProg
import Derived.Test.YtinpojleegfadaaFz
import Derived.Test.YtinpojleegfadaaE1
namespace Go.Proofs.Ytinpojleegfadaa
open Go.Sx Go.Sx.Fr
set_option maxRecDepth 100000
set_option linter.unusedSimpArgs false
set_option linter.unusedVariables false
theorem one_encPg {p : Pg} {u : Value} (h : u ∈ encPg p) : oneC u = true := by obtain ⟨x, _, rfl⟩ := List.mem_map.1 h; rfl
def zPg : Pg := ⟨zeroPg, rfl⟩
theorem mkPg_zero : mkPg zeroPg = zPg := rfl
theorem mkPg_of {l : List UInt8} (h : l.length = 64) : mkPg l = ⟨l, h⟩ := by unfold mkPg; rw [dif_pos h]
def freeS (fr : Int → Bool) (top : Bool) : Nat → Int → Int → Int
  | 0, _, out => out
  | k + 1, f, out => freeS fr top k (f + 1) (if fr f = true ∧ (out < 0 ∨ top = true) then f else out)
def freeE (fs : List FrS) (p : PoolS) (top : Bool) : Int := freeS (freeB fs) top (p.first + p.count - p.first).toNat p.first (-1)
theorem freeS_step {fr : Int → Bool} {top : Bool} {f e out o2 : Int} (h : f < e) (ho : o2 = if fr f = true ∧ (out < 0 ∨ top = true) then f else out) : freeS fr top (e - f).toNat f out = freeS fr top (e - (f + 1)).toNat (f + 1) o2 := by
  obtain ⟨q, hq⟩ : ∃ q, (e - f).toNat = q + 1 := ⟨(e - f).toNat - 1, by omega⟩
  rw [hq, show (e - (f + 1)).toNat = q by omega, ho]; rfl
theorem freeB_rf {fs : List FrS} {n : Int} (h : ∃ f, getF fs n = some f) : freeB fs n = decide (rf fs n = 0) := by
  obtain ⟨f, hf⟩ := h; simp [freeB, rf, hf]

theorem c_rfree (W : World) (base : List Blk) (R : RefS) (T : TabS) (fs : List FrS) (p : PoolS) (hp0 : 0 ≤ p.first) (hp1 : 0 ≤ p.count) (hp2 : p.first + p.count ≤ 4096) (hin : ∀ n, p.first ≤ n → n < p.first + p.count → ∃ f, getF fs n = some f) (top : Bool) :
    CP Try.prog W base 48 #[.pointer (some ⟨R.rt, 0, none⟩), .agg #[.string p.name, .int .i64 p.first, .int .i64 p.count, .bool p.general, .bool p.keep], .bool top] (refI R T fs) (.int .i64 (freeE fs p top)) := by
  intro F
  refine ctIntro Try.func48 rfl rfl (by kernel_rfl) ?_
  refine sSeq ?_
  refine rRunN [] (fun b1 => [(6, .int .i64 0), (4, .pointer (some ⟨b1, 0, none⟩))]) (fun b1 => []) (fun b1 => .cells #[.string p.name, .int .i64 p.first, .int .i64 p.count, .bool p.general, .bool p.keep] 47) (fun b1 => []) (fun b1 => by kernel_rfl) (fun b1 => ?_)
  refine sSeq (rRunS [] [(7, .int .i64 (-1))] [] (by kernel_rfl) (sSeq (sSeq (rRunS [(1, 6, 0)] [(8, .int .i64 p.first), (10, .int .i64 p.first), (9, .pointer (some ⟨b1, 1, none⟩))] [b1] (by kernel_rfl) (sBlock ?_)))))
  refine sLoop (fun (x_ : Int × Int) => match x_ with | (f, out) => [(8, .int .i64 f), (7, .int .i64 out), (4, .pointer (some ⟨b1, 0, none⟩)), (2, .bool top), (0, .pointer (some ⟨R.rt, 0, none⟩))]) (fun (x_ : Int × Int) => match x_ with | (f, out) => [[(R.rt, .cells #[.slice (some ⟨R.pb, 0, none⟩) T.pools.length R.pc, .slice (some ⟨R.rb, 0, none⟩) 4096 4096, .slice (some ⟨R.yb, 0, none⟩) 4096 4096] 81)], [(R.pb, .cells (arr encPool T.pools R.pr) 47)], [(R.rb, .cells (arr encInt (refsL fs) []) 3)], [(R.yb, .cells (arr encPg (pagesL fs) []) 71)], F, [(b1, .cells #[.string p.name, .int .i64 p.first, .int .i64 p.count, .bool p.general, .bool p.keep] 47)]]) (fun (x_ : Int × Int) => match x_ with | (f, out) => p.first ≤ f ∧ f ≤ (p.first + p.count) ∧ freeS (freeB fs) top ((p.first + p.count) - f).toNat f out = freeE fs p top) (fun (x_ : Int × Int) => match x_ with | (f, out) => ((p.first + p.count) - f).toNat) (p.first, -1) ⟨by omega, by omega, rfl⟩ (by kernel_rfl) rfl ?_
  rintro ⟨f, out⟩ ⟨hf0, hf1, hS⟩
  refine sSeq (sSeq (sReg (lRunS 6 [(2, 6, 0), (4, 6, 0)] [(16, .int .i64 (IntKind.i64.wrap (p.first + p.count))), (15, .int .i64 p.count), (14, .pointer (some ⟨b1, 2, none⟩)), (13, .int .i64 p.first), (12, .pointer (some ⟨b1, 1, none⟩)), (11, .int .i64 f)] [b1, b1] (by kernel_rfl) (lOv 16 (iw (x := p.first + p.count) (by omega)) (by kernel_rfl) (lRunS 1 [] [(17, .bool (decide (f < (p.first + p.count))))] [] (by kernel_rfl) ?_)))))
  refine lEnd ?_
  refine sIfP (bpD (f < (p.first + p.count))) (by kernel_rfl) (fun h1 => ?_) (fun h1 => ?_)
  · refine sSkip (sSeq (sBlock (sSeq (sReg (lRunS 5 [(3, 1, 0)] [(24, .int .i64 f), (23, .slice (some ⟨R.rb, 0, none⟩) 4096 4096), (22, .pointer (some ⟨R.rt, 1, none⟩)), (21, .pointer (some ⟨R.rt, 0, none⟩)), (20, .pointer (some ⟨R.rt, 0, none⟩))] [R.rt] (by kernel_rfl) ?_)))))
    refine lOv (v := .int .i64 (f.toNat : Int)) (v0 := .int .i64 f) 24 (congrArg (Value.int .i64) (by omega)) (by kernel_rfl) (lR (u := .pointer (some ⟨R.rb, f.toNat * 1, none⟩)) (runIndex0 (T := 39) (E := 3) (n := 4096) (c := 4096) (b := R.rb) (k := 1) (ik := .i64) f.toNat (by kernel_rfl) (by kernel_rfl) (by omega)) (by kernel_rfl) (by kernel_rfl) (by kernel_rfl) (lR (u := .int .i64 (rf fs f)) (runLoadE1 (f := encInt) (T := 3) (b := R.rb) (T' := 3) (rest := []) (v := .int .i64 (rf fs f)) (fun _ => rfl) (3, 0) (by kernel_rfl) (refsL_get fs (by omega) (by omega)) rfl (by kernel_rfl)) (by kernel_rfl) (by kernel_rfl) (by kernel_rfl) (lRunS 1 [] [(27, .bool (decide ((rf fs f) = (0 : Int))))] [] (by kernel_rfl) ?_)))
    rcases Classical.em ((rf fs f) = (0 : Int)) with h2 | h2
    · refine lOv (v := .bool true) (v0 := .bool (decide ((rf fs f) = (0 : Int)))) 27 (ovT (bpD ((rf fs f) = (0 : Int))) h2) (by kernel_rfl) (lRunS 3 [] [(30, .bool (decide (out < (0 : Int)))), (29, .int .i64 out), (28, .bool true)] [] (by kernel_rfl) ?_)
      rcases Classical.em (out < (0 : Int)) with h3 | h3
      · refine lOv (v := .bool true) (v0 := .bool (decide (out < (0 : Int)))) 30 (ovT (bpD (out < (0 : Int))) h3) (by kernel_rfl) (lRunS 4 [] [(34, .bool true), (33, .bool true), (32, undef), (31, .bool true)] [] (by kernel_rfl) (lEnd (sIfT (by kernel_rfl) (rRunS [] [(7, .int .i64 f), (35, .int .i64 f)] [] (by kernel_rfl) (sEnd ?_)))))
        refine sReg (lRunS 2 [] [(19, .int .i64 (IntKind.i64.wrap (f + 1))), (18, .int .i64 f)] [] (by kernel_rfl) (lOv 19 (iw (x := f + 1) (by omega)) (by kernel_rfl) (lRunS 1 [] [(8, .int .i64 (f + 1))] [] (by kernel_rfl) (lEnd ?_))))
        exact sAgain (f + 1, f) ⟨by omega, by omega, by rw [← hS]; exact (freeS_step (by omega) (by rw [freeB_rf (hin f (by omega) (by omega))]; simp_all <;> omega)).symm⟩ (by first | omega | (simp only []; omega)) (by kernel_rfl) rfl
      · refine lOv (v := .bool false) (v0 := .bool (decide (out < (0 : Int)))) 30 (ovF (bpD (out < (0 : Int))) h3) (by kernel_rfl) (lRunS 4 [] [(34, .bool top), (33, .bool top), (32, .bool top), (31, .bool false)] [] (by kernel_rfl) (lEnd ?_))
        refine sIfP (bpR top) (by kernel_rfl) (fun h4 => ?_) (fun h4 => ?_)
        · refine rRunS [] [(7, .int .i64 f), (35, .int .i64 f)] [] (by kernel_rfl) (sEnd (sReg (lRunS 2 [] [(19, .int .i64 (IntKind.i64.wrap (f + 1))), (18, .int .i64 f)] [] (by kernel_rfl) (lOv 19 (iw (x := f + 1) (by omega)) (by kernel_rfl) (lRunS 1 [] [(8, .int .i64 (f + 1))] [] (by kernel_rfl) ?_)))))
          refine lEnd ?_
          exact sAgain (f + 1, f) ⟨by omega, by omega, by rw [← hS]; exact (freeS_step (by omega) (by rw [freeB_rf (hin f (by omega) (by omega))]; simp_all <;> omega)).symm⟩ (by first | omega | (simp only []; omega)) (by kernel_rfl) rfl
        · refine sSkip (sEnd (sReg (lRunS 2 [] [(19, .int .i64 (IntKind.i64.wrap (f + 1))), (18, .int .i64 f)] [] (by kernel_rfl) (lOv 19 (iw (x := f + 1) (by omega)) (by kernel_rfl) (lRunS 1 [] [(8, .int .i64 (f + 1))] [] (by kernel_rfl) ?_)))))
          refine lEnd ?_
          exact sAgain (f + 1, out) ⟨by omega, by omega, by rw [← hS]; exact (freeS_step (by omega) (by rw [freeB_rf (hin f (by omega) (by omega))]; simp_all <;> omega)).symm⟩ (by first | omega | (simp only []; omega)) (by kernel_rfl) rfl
    · refine lOv (v := .bool false) (v0 := .bool (decide ((rf fs f) = (0 : Int)))) 27 (ovF (bpD ((rf fs f) = (0 : Int))) h2) (by kernel_rfl) (lRunS 7 [] [(34, .bool false), (33, undef), (32, undef), (31, undef), (30, undef), (29, undef), (28, .bool false)] [] (by kernel_rfl) (lEnd (sIfF (by kernel_rfl) (sSkip (sEnd ?_)))))
      refine sReg (lRunS 2 [] [(19, .int .i64 (IntKind.i64.wrap (f + 1))), (18, .int .i64 f)] [] (by kernel_rfl) (lOv 19 (iw (x := f + 1) (by omega)) (by kernel_rfl) (lRunS 1 [] [(8, .int .i64 (f + 1))] [] (by kernel_rfl) (lEnd ?_))))
      exact sAgain (f + 1, out) ⟨by omega, by omega, by rw [← hS]; exact (freeS_step (by omega) (by rw [freeB_rf (hin f (by omega) (by omega))]; simp_all <;> omega)).symm⟩ (by first | omega | (simp only []; omega)) (by kernel_rfl) rfl
  · refine sExit (by kernel_rfl) (sSeq (rRunS [] [(6, .int .i64 out), (36, .int .i64 out)] [] (by kernel_rfl) (sRet ?_)))
    exact wRet () (0, 0) [] (.int .i64 out) [.tmp 6] rfl (by kernel_rfl) (congrArg (Value.int .i64) (by rw [← hS, show ((p.first + p.count) - f).toNat = 0 by omega]; rfl)) trivial (fun _ h => h.pick [0, 1, 2, 3, 4] (by kernel_rfl) (by kernel_rfl))

theorem take_zero {ps : List PoolS} {f : FrS} {p : PoolS} (hp : ps[f.pool]? = some p) (hk : p.keep = false) : pgOf (takeF ps f) = zeroPg := by
  unfold pgOf takeF
  cases hd : f.data with
  | none => rfl
  | some d =>
    simp only [hp, Option.map_some, hk, true_and]
    by_cases h : d.2 = zeroPg
    · simp [h]
    · simp [h]
theorem take_keep {ps : List PoolS} {f : FrS} {p : PoolS} (hp : ps[f.pool]? = some p) (hk : p.keep = true) : pgOf (takeF ps f) = pgOf f := by
  unfold pgOf takeF
  cases hd : f.data with
  | none => rfl
  | some d => simp [hp, hk]

theorem c_rtake (W : World) (base : List Blk) (R : RefS) (T : TabS) (fs : List FrS) (ht : TabOk T fs) (n : Int) (f : FrS) (hg : getF fs n = some f) :
    CF Try.prog W base 47 #[.pointer (some ⟨R.rt, 0, none⟩), .int .i64 n] (refI R T fs) (fun _ : Unit => .tuple #[]) (fun _ => refI R T (updF fs n (takeF T.pools))) (fun _ => True) := by
  obtain ⟨ho, hn0, hn1⟩ := of_get ht hg
  have hrf : rf fs n = f.refs := by simp [rf, hg]
  obtain ⟨p, hp, hp1, hp2⟩ := ht.cov2 n f hg
  intro F
  refine ctIntro Try.func47 rfl rfl (by kernel_rfl) ?_
  refine sSeq (sReg (lRunS 5 [(3, 1, 0)] [(8, .int .i64 n), (7, .slice (some ⟨R.rb, 0, none⟩) 4096 4096), (6, .pointer (some ⟨R.rt, 1, none⟩)), (5, .pointer (some ⟨R.rt, 0, none⟩)), (4, .pointer (some ⟨R.rt, 0, none⟩))] [R.rt] (by kernel_rfl) (lOv (v := .int .i64 (n.toNat : Int)) (v0 := .int .i64 n) 8 (congrArg (Value.int .i64) (by omega)) (by kernel_rfl) (lR (u := .pointer (some ⟨R.rb, n.toNat * 1, none⟩)) (runIndex0 (T := 39) (E := 3) (n := 4096) (c := 4096) (b := R.rb) (k := 1) (ik := .i64) n.toNat (by kernel_rfl) (by kernel_rfl) (by omega)) (by kernel_rfl) (by kernel_rfl) (by kernel_rfl) ?_))))
  refine lX (u := fun _ => undef) (runStoreE1 (b := R.rb) (f := encInt) (T := 3) (T' := 3) (rest := []) (v := .int .i64 1) (i := 2) (j := 0) (fun _ => rfl) 1 (by kernel_rfl) ((refsL_get fs hn0 hn1).trans (congrArg some hrf)) rfl rfl (by kernel_rfl)) (by kernel_rfl) (by kernel_rfl) (fun _ => by kernel_rfl) ?_
  rintro ⟨⟩ -
  refine lEnd (sSeq (rQuiet (by kernel_rfl) (by kernel_rfl) (qRun 6 [(3, 1, 0)] [(15, .int .i64 n), (14, .pointer (some ⟨R.rt, 0, none⟩)), (13, .slice (some ⟨R.pb, 0, none⟩) T.pools.length R.pc), (12, .pointer (some ⟨R.rt, 0, none⟩)), (11, .pointer (some ⟨R.rt, 0, none⟩)), (10, .pointer (some ⟨R.rt, 0, none⟩))] [R.rt] (by kernel_rfl) ?_)))
  refine qCallR [0, 1] [0, 1, 2, 3, 4] (c_rof1 W base R T (by have := ht.len; omega) ht.ps n) (by kernel_rfl) (by kernel_rfl) (by kernel_rfl) (by kernel_rfl) (by kernel_rfl) (qOv (v := .int .i64 (f.pool : Int)) (v0 := .int .i64 (optI (ofN T.pools n))) 16 (congrArg (Value.int .i64) (by rw [ho]; rfl)) (by kernel_rfl) (qR (u := .pointer (some ⟨R.pb, f.pool * 5, none⟩)) (runIndex0 (T := 22) (E := 47) (n := T.pools.length) (c := R.pc) (b := R.pb) (k := 5) (ik := .i64) f.pool (by kernel_rfl) (by kernel_rfl) (List.getElem?_eq_some_iff.1 hp).1) (by kernel_rfl) (by kernel_rfl) (by kernel_rfl) (qRun 1 [] [(18, .pointer (some ⟨R.pb, f.pool * 5 + 4, none⟩))] [] (by kernel_rfl) (qR (u := .bool p.keep) (runLoadE (f := encPool) (T := 4) (b := R.pb) (k := 5) (T' := 47) (rest := R.pr) (v := .bool p.keep) (fun _ => rfl) 4 (2, 0) (by kernel_rfl) hp (by decide) rfl (by kernel_rfl)) (by kernel_rfl) (by kernel_rfl) (by kernel_rfl) (qRun 1 [] [(20, .bool (!p.keep))] [] (by kernel_rfl) ?_)))))
  refine qEnd ?_
  refine sIfPn (bpR p.keep) (by kernel_rfl) (fun h1 => ?_) (fun h1 => ?_)
  · have hpl := pagesL_len fs
    refine sReg (lRunS 5 [(3, 1, 0)] [(25, .int .i64 n), (24, .slice (some ⟨R.yb, 0, none⟩) 4096 4096), (23, .pointer (some ⟨R.rt, 2, none⟩)), (22, .pointer (some ⟨R.rt, 0, none⟩)), (21, .pointer (some ⟨R.rt, 0, none⟩))] [R.rt] (by kernel_rfl) (lOv (v := .int .i64 (n.toNat : Int)) (v0 := .int .i64 n) 25 (congrArg (Value.int .i64) (by omega)) (by kernel_rfl) (lRunS 1 [] [(26, .agg #[.int .u8 0, .int .u8 0, .int .u8 0, .int .u8 0, .int .u8 0, .int .u8 0, .int .u8 0, .int .u8 0, .int .u8 0, .int .u8 0, .int .u8 0, .int .u8 0, .int .u8 0, .int .u8 0, .int .u8 0, .int .u8 0, .int .u8 0, .int .u8 0, .int .u8 0, .int .u8 0, .int .u8 0, .int .u8 0, .int .u8 0, .int .u8 0, .int .u8 0, .int .u8 0, .int .u8 0, .int .u8 0, .int .u8 0, .int .u8 0, .int .u8 0, .int .u8 0, .int .u8 0, .int .u8 0, .int .u8 0, .int .u8 0, .int .u8 0, .int .u8 0, .int .u8 0, .int .u8 0, .int .u8 0, .int .u8 0, .int .u8 0, .int .u8 0, .int .u8 0, .int .u8 0, .int .u8 0, .int .u8 0, .int .u8 0, .int .u8 0, .int .u8 0, .int .u8 0, .int .u8 0, .int .u8 0, .int .u8 0, .int .u8 0, .int .u8 0, .int .u8 0, .int .u8 0, .int .u8 0, .int .u8 0, .int .u8 0, .int .u8 0, .int .u8 0])] [] (by kernel_rfl) (lR (u := .pointer (some ⟨R.yb, n.toNat * 64, none⟩)) (runIndex0 (T := 79) (E := 71) (n := 4096) (c := 4096) (b := R.yb) (k := 64) (ik := .i64) n.toNat (by kernel_rfl) (by kernel_rfl) (by omega)) (by kernel_rfl) (by kernel_rfl) (by kernel_rfl) ?_))))
    obtain ⟨x1, hx1⟩ : ∃ x, (pagesL fs)[n.toNat]? = some x := ⟨_, List.getElem?_eq_getElem (by (try simp only [List.length_set, List.length_append, List.length_replicate]); omega)⟩
    refine lX (u := fun _ => undef) (runStoreS (b := R.yb) (f := encPg) (k := 64) (T := 71) (T' := 71) (rest := []) (i := 3) (j := 0) (v := #[.int .u8 0, .int .u8 0, .int .u8 0, .int .u8 0, .int .u8 0, .int .u8 0, .int .u8 0, .int .u8 0, .int .u8 0, .int .u8 0, .int .u8 0, .int .u8 0, .int .u8 0, .int .u8 0, .int .u8 0, .int .u8 0, .int .u8 0, .int .u8 0, .int .u8 0, .int .u8 0, .int .u8 0, .int .u8 0, .int .u8 0, .int .u8 0, .int .u8 0, .int .u8 0, .int .u8 0, .int .u8 0, .int .u8 0, .int .u8 0, .int .u8 0, .int .u8 0, .int .u8 0, .int .u8 0, .int .u8 0, .int .u8 0, .int .u8 0, .int .u8 0, .int .u8 0, .int .u8 0, .int .u8 0, .int .u8 0, .int .u8 0, .int .u8 0, .int .u8 0, .int .u8 0, .int .u8 0, .int .u8 0, .int .u8 0, .int .u8 0, .int .u8 0, .int .u8 0, .int .u8 0, .int .u8 0, .int .u8 0, .int .u8 0, .int .u8 0, .int .u8 0, .int .u8 0, .int .u8 0, .int .u8 0, .int .u8 0, .int .u8 0, .int .u8 0]) encPg_len zPg (by kernel_rfl) hx1 (by kernel_rfl) (fun u hu => one_encPg hu) (by kernel_rfl)) (by kernel_rfl) (by kernel_rfl) (fun _ => by kernel_rfl) ?_
    rintro ⟨⟩ -
    refine lEnd ?_
    have hR : refsL (updF fs n (takeF T.pools)) = (refsL fs).set n.toNat 1 := refsL_upd (fun _ => rfl) hg hn0 hn1
    have hY : pagesL (updF fs n (takeF T.pools)) = (pagesL fs).set n.toNat zPg := by rw [pagesL_upd (g := takeF T.pools) (fun _ => rfl) hg hn0 hn1, take_zero hp (by simpa using h1)]; rfl
    refine sRe (its' := [[(R.rt, .cells #[.slice (some ⟨R.pb, 0, none⟩) T.pools.length R.pc, .slice (some ⟨R.rb, 0, none⟩) 4096 4096, .slice (some ⟨R.yb, 0, none⟩) 4096 4096] 81)], [(R.pb, .cells (arr encPool T.pools R.pr) 47)], [(R.rb, .cells (arr encInt (refsL (updF fs n (takeF T.pools))) []) 3)], [(R.yb, .cells (arr encPg (pagesL (updF fs n (takeF T.pools))) []) 71)], F]) (by rw [hR, hY]; rfl) ?_
    exact sNil (wFall () (0, 0) [] (.tuple #[]) [] rfl (by kernel_rfl) rfl trivial (fun _ h => h))
  · refine sSkip ?_
    have hR : refsL (updF fs n (takeF T.pools)) = (refsL fs).set n.toNat 1 := refsL_upd (fun _ => rfl) hg hn0 hn1
    have hY : pagesL (updF fs n (takeF T.pools)) = pagesL fs := by rw [pagesL_upd (g := takeF T.pools) (fun _ => rfl) hg hn0 hn1, take_keep hp (by simpa using h1)]; exact set_self ((pagesL_get fs hn0 hn1).trans (by unfold pgN; rw [hg]))
    refine sRe (its' := [[(R.rt, .cells #[.slice (some ⟨R.pb, 0, none⟩) T.pools.length R.pc, .slice (some ⟨R.rb, 0, none⟩) 4096 4096, .slice (some ⟨R.yb, 0, none⟩) 4096 4096] 81)], [(R.pb, .cells (arr encPool T.pools R.pr) 47)], [(R.rb, .cells (arr encInt (refsL (updF fs n (takeF T.pools))) []) 3)], [(R.yb, .cells (arr encPg (pagesL (updF fs n (takeF T.pools))) []) 71)], F]) (by rw [hR, hY]; rfl) ?_
    exact sNil (wFall () (0, 0) [] (.tuple #[]) [] rfl (by kernel_rfl) rfl trivial (fun _ h => h))

end Go.Proofs.Ytinpojleegfadaa
