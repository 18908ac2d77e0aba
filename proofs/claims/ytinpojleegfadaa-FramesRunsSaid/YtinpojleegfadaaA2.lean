/- The walks of find, Ref, Unref, Refs and Pool. -/
import Derived.Test.YtinpojleegfadaaProg
import Derived.Test.YtinpojleegfadaaFr
set_option linter.unusedVariables false
set_option linter.unusedSimpArgs false
namespace Go.Proofs.Ytinpojleegfadaa
open Go.Sx Go.Sx.Fr
set_option maxRecDepth 100000
set_option linter.unusedSimpArgs false
theorem c_find (W : World) (base : List Blk) (T : TabS) (fs : List FrS) (he : T.es = fs.map FrS.ent) (n : Int) (b : Bool) :
    CP Try.prog W base 23 #[.pointer (some ⟨T.tb, 0, none⟩), .int .i64 n, .bool b] (tabI T fs) (findV fs n b) := by
  intro F
  refine ctIntro Try.func23 rfl rfl (by kernel_rfl) ?_
  refine sSeq (rRunS [] [(7, .int .i64 0), (6, .pointer none)] [] (by kernel_rfl) (sSeq (sSeq (rRunS [] [(10, .bool false), (9, .pointer (some ⟨T.tb, 0, none⟩))] [] (by kernel_rfl) (sIfF (by kernel_rfl) ?_)))))
  refine sSkip (sSeq (sReg (lRunS 5 [(3, 1, 0)] [(15, .int .i64 n), (14, .map (some T.fm)), (13, .pointer (some ⟨T.tb, 2, none⟩)), (12, .pointer (some ⟨T.tb, 0, none⟩)), (11, .pointer (some ⟨T.tb, 0, none⟩))] [T.tb] (by kernel_rfl) (lR (u := (lkM T.es n).getD (.pointer none)) (runLook (T := 61) (b := T.fm) (K := 3) (E := 67) (l := T.es) (clk := T.fc) (by kernel_rfl) (keyInt (k := .i64) (by kernel_rfl)) (.pointer none) (by kernel_rfl) (4, 0) n (by kernel_rfl)) (by kernel_rfl) (by kernel_rfl) (by kernel_rfl) ?_))))
  rcases hg : getF fs n with _ | f
  · refine lOv 16 (T.lk0 he hg) (by kernel_rfl) (lRunS 1 [] [(8, .pointer none)] [] (by kernel_rfl) (lEnd (sSeq (sSeq (rRunS [] [(18, .bool true), (17, .pointer none)] [] (by kernel_rfl) ?_)))))
    refine sIfT (by kernel_rfl) (sSeq (rRunS [] [(7, .int .i64 34), (6, .pointer none)] [] (by kernel_rfl) (sRet ?_)))
    exact wRet () (0, 0) [] (.tuple #[.pointer none, .int .i64 34]) [.tmp 6, .tmp 7] rfl (by kernel_rfl) (by simp_all [findV]) trivial (fun _ h => h)
  · refine lOv 16 (T.lk1 he hg) (by kernel_rfl) ?_
    obtain ⟨hn5, A1, B2, hA3, hB4⟩ := fr_open hg
    refine lRe (its' := [[(T.tb, .cells #[.slice (some ⟨T.pb, 0, none⟩) T.pools.length T.pc, .map (some T.ix), .map (some T.fm)] 63)], [(T.pb, .cells (arr encPool T.pools T.pr) 57)], [(T.ix, .map (mkM Value.string T.il) T.ic)], [(T.fm, .map (mkM (Value.int .i64) T.es) T.fc)], A1, [(f.b, .cells #[.int .i64 f.refs, .int .i64 (f.pool : Int), .pointer f.dp] 70)], pgB f, B2, F]) (by simp [tabI, hA3, FrS.o]) ?_
    refine lRunS 1 [] [(8, .pointer (some ⟨f.b, 0, none⟩))] [] (by kernel_rfl) (lEnd (sSeq (sSeq (rRunS [] [(18, .bool false), (17, .pointer (some ⟨f.b, 0, none⟩))] [] (by kernel_rfl) (sIfF (by kernel_rfl) ?_)))))
    refine sSkip (sSeq (sSeq (sReg (lRunS 6 [(3, 6, 0)] [(24, .bool (decide (f.refs = (0 : Int)))), (23, .bool (decide (f.refs = (0 : Int)))), (22, .int .i64 f.refs), (21, .pointer (some ⟨f.b, 0, none⟩)), (20, .pointer (some ⟨f.b, 0, none⟩)), (19, .pointer (some ⟨f.b, 0, none⟩))] [f.b] (by kernel_rfl) (lShort 3 [] 24 (decide (f.refs = (0 : Int))) 27 (!b) false [(26, .bool (!b)), (25, .bool b)] [(26, undef), (25, undef)] [] [] (by kernel_rfl) (by kernel_rfl) (by kernel_rfl) (by kernel_rfl) ?_)))))
    refine lEnd ?_
    refine sIfP (bpA (bpD (f.refs = (0 : Int))) (bpN (bpR b))) (by kernel_rfl) (fun h1 => ?_) (fun h1 => ?_)
    · refine sSeq (rRunS [] [(7, .int .i64 35), (6, .pointer none)] [] (by kernel_rfl) (sRet ?_))
      exact wRet () (0, 0) [] (.tuple #[.pointer none, .int .i64 35]) [.tmp 6, .tmp 7] rfl (by kernel_rfl) (by simp_all [findV]) trivial (fun _ h => h.re (by simp [tabI, hA3, FrS.o]))
    · refine sSkip (sSeq (rRunS [] [(7, .int .i64 0), (6, .pointer (some ⟨f.b, 0, none⟩)), (28, .pointer (some ⟨f.b, 0, none⟩))] [] (by kernel_rfl) (sRet ?_)))
      exact wRet () (0, 0) [] (.tuple #[.pointer (some ⟨f.b, 0, none⟩), .int .i64 0]) [.tmp 6, .tmp 7] rfl (by kernel_rfl) (by simp_all [findV]) trivial (fun _ h => h.re (by simp [tabI, hA3, FrS.o]))

theorem c_Unref (W : World) (base : List Blk) (T : TabS) (fs : List FrS) (he : T.es = fs.map FrS.ent) (hr : RefsOk fs) (n : Int) :
    CF Try.prog W base 13 #[.pointer (some ⟨T.tb, 0, none⟩), .int .i64 n] (tabI T fs) (fun _ : Unit => .int .i64 (findE fs n false)) (fun _ => tabI T (unrefF fs n)) (fun _ => True) := by
  intro F
  refine ctIntro Try.func13 rfl rfl (by kernel_rfl) ?_
  refine sSeq (rRunS [] [(4, .int .i64 0)] [] (by kernel_rfl) (sSeq (sReg (lRunS 2 [] [(9, .int .i64 n), (8, .pointer (some ⟨T.tb, 0, none⟩))] [] (by kernel_rfl) (lCallR [0, 1, 2, 3, 4] [0, 1, 2, 3, 4, 5] (c_find W base T fs he n false) (by kernel_rfl) (by kernel_rfl) (by kernel_rfl) (by kernel_rfl) (by kernel_rfl) ?_)))))
  rcases findV_cases fs n false with ⟨hz, hv⟩ | ⟨hz, f, hg, h0, hv⟩
  · refine lOv 10 hv (by kernel_rfl) (lRunS 5 [] [(6, .int .i64 (findE fs n false)), (5, .pointer none), (12, .int .i64 (findE fs n false)), (11, .pointer none), (7, .tuple #[.pointer none, .int .i64 (findE fs n false)])] [] (by kernel_rfl) (lEnd (sSeq (sSeq (sReg ?_)))))
    refine lRunS 2 [] [(14, .bool (!(decide ((findE fs n false) = (0 : Int))))), (13, .int .i64 (findE fs n false))] [] (by kernel_rfl) (lOv 14 (ovT (bpN (bpD ((findE fs n false) = (0 : Int)))) hz) (by kernel_rfl) (lEnd (sIfT (by kernel_rfl) (sSeq (rRunS [] [(4, .int .i64 (findE fs n false)), (15, .int .i64 (findE fs n false))] [] (by kernel_rfl) ?_)))))
    refine sRet ?_
    exact wRet () (0, 0) [] (.int .i64 (findE fs n false)) [.tmp 4] rfl (by kernel_rfl) rfl trivial (fun _ h => by simpa [unrefF, hz] using h)
  · refine lOv 10 hv (by kernel_rfl) ?_
    obtain ⟨hn5, A1, B2, hA3, hB4⟩ := fr_open hg
    refine lRe (its' := [[(T.tb, .cells #[.slice (some ⟨T.pb, 0, none⟩) T.pools.length T.pc, .map (some T.ix), .map (some T.fm)] 63)], [(T.pb, .cells (arr encPool T.pools T.pr) 57)], [(T.ix, .map (mkM Value.string T.il) T.ic)], [(T.fm, .map (mkM (Value.int .i64) T.es) T.fc)], A1, [(f.b, .cells #[.int .i64 f.refs, .int .i64 (f.pool : Int), .pointer f.dp] 70)], pgB f, B2, F]) (by simp [tabI, hA3, FrS.o]) ?_
    have hrf := hr _ _ hg
    refine lRunS 5 [] [(6, .int .i64 0), (5, .pointer (some ⟨f.b, 0, none⟩)), (12, .int .i64 0), (11, .pointer (some ⟨f.b, 0, none⟩)), (7, .tuple #[.pointer (some ⟨f.b, 0, none⟩), .int .i64 0])] [] (by kernel_rfl) (lEnd (sSeq (sSeq (rRunS [] [(14, .bool false), (13, .int .i64 0)] [] (by kernel_rfl) (sIfF (by kernel_rfl) ?_)))))
    refine sSkip (sSeq (sReg (lRunS 5 [(3, 6, 0)] [(20, .int .i64 (IntKind.i64.wrap (f.refs - 1))), (19, .int .i64 f.refs), (18, .pointer (some ⟨f.b, 0, none⟩)), (17, .pointer (some ⟨f.b, 0, none⟩)), (16, .pointer (some ⟨f.b, 0, none⟩))] [f.b] (by kernel_rfl) (lOv 20 (iw (x := f.refs - 1) (by omega)) (by kernel_rfl) (lRunU 3 [(2, 6, 0)] [(22, .pointer (some ⟨f.b, 0, none⟩)), (21, .pointer (some ⟨f.b, 0, none⟩))] [(5, [(f.b, .cells #[.int .i64 (f.refs - 1), .int .i64 (f.pool : Int), .pointer f.dp] 70)])] [f.b] (by kernel_rfl) ?_)))))
    refine lEnd (sSeq (rRunS [] [(4, .int .i64 0)] [] (by kernel_rfl) (sRet ?_)))
    exact wRet () (0, 0) [] (.int .i64 0) [.tmp 4] rfl (by kernel_rfl) (by rw [hz]) trivial (fun _ h => h.re (by simp [updI, tabI, unrefF, hz, hB4, FrS.o, FrS.dp, pgB]))

theorem c_Ref (W : World) (base : List Blk) (T : TabS) (fs : List FrS) (he : T.es = fs.map FrS.ent) (hr : RefsOk fs) (n : Int) :
    CF Try.prog W base 26 #[.pointer (some ⟨T.tb, 0, none⟩), .int .i64 n] (tabI T fs) (fun _ : Unit => .int .i64 (refE fs n)) (fun _ => tabI T (refF fs n)) (fun _ => True) := by
  intro F
  refine ctIntro Try.func26 rfl rfl (by kernel_rfl) ?_
  refine sSeq (rRunS [] [(4, .int .i64 0)] [] (by kernel_rfl) (sSeq (sReg (lRunS 2 [] [(9, .int .i64 n), (8, .pointer (some ⟨T.tb, 0, none⟩))] [] (by kernel_rfl) (lCallR [0, 1, 2, 3, 4] [0, 1, 2, 3, 4, 5] (c_find W base T fs he n false) (by kernel_rfl) (by kernel_rfl) (by kernel_rfl) (by kernel_rfl) (by kernel_rfl) ?_)))))
  rcases findV_cases fs n false with ⟨hz, hv⟩ | ⟨hz, f, hg, h0, hv⟩
  · refine lOv 10 hv (by kernel_rfl) (lRunS 5 [] [(6, .int .i64 (findE fs n false)), (5, .pointer none), (12, .int .i64 (findE fs n false)), (11, .pointer none), (7, .tuple #[.pointer none, .int .i64 (findE fs n false)])] [] (by kernel_rfl) (lEnd (sSeq (sSeq (sReg ?_)))))
    refine lRunS 2 [] [(14, .bool (!(decide ((findE fs n false) = (0 : Int))))), (13, .int .i64 (findE fs n false))] [] (by kernel_rfl) (lOv 14 (ovT (bpN (bpD ((findE fs n false) = (0 : Int)))) hz) (by kernel_rfl) (lEnd (sIfT (by kernel_rfl) (sSeq (rRunS [] [(4, .int .i64 (findE fs n false)), (15, .int .i64 (findE fs n false))] [] (by kernel_rfl) ?_)))))
    refine sRet ?_
    exact wRet () (0, 0) [] (.int .i64 (findE fs n false)) [.tmp 4] rfl (by kernel_rfl) (by simp [refE, hz]) trivial (fun _ h => by simpa [refF, refE, hz] using h)
  · refine lOv 10 hv (by kernel_rfl) ?_
    obtain ⟨hn5, A1, B2, hA3, hB4⟩ := fr_open hg
    refine lRe (its' := [[(T.tb, .cells #[.slice (some ⟨T.pb, 0, none⟩) T.pools.length T.pc, .map (some T.ix), .map (some T.fm)] 63)], [(T.pb, .cells (arr encPool T.pools T.pr) 57)], [(T.ix, .map (mkM Value.string T.il) T.ic)], [(T.fm, .map (mkM (Value.int .i64) T.es) T.fc)], A1, [(f.b, .cells #[.int .i64 f.refs, .int .i64 (f.pool : Int), .pointer f.dp] 70)], pgB f, B2, F]) (by simp [tabI, hA3, FrS.o]) ?_
    have hrf := hr _ _ hg
    refine lRunS 5 [] [(6, .int .i64 0), (5, .pointer (some ⟨f.b, 0, none⟩)), (12, .int .i64 0), (11, .pointer (some ⟨f.b, 0, none⟩)), (7, .tuple #[.pointer (some ⟨f.b, 0, none⟩), .int .i64 0])] [] (by kernel_rfl) (lEnd (sSeq (sSeq (rRunS [] [(14, .bool false), (13, .int .i64 0)] [] (by kernel_rfl) (sIfF (by kernel_rfl) ?_)))))
    refine sSkip (sSeq (sSeq (rRunS [(3, 6, 0)] [(20, .bool (decide (f.refs ≥ (60000 : Int)))), (19, .int .i64 f.refs), (18, .pointer (some ⟨f.b, 0, none⟩)), (17, .pointer (some ⟨f.b, 0, none⟩)), (16, .pointer (some ⟨f.b, 0, none⟩))] [f.b] (by kernel_rfl) ?_)))
    refine sIfP (bpD (f.refs ≥ (60000 : Int))) (by kernel_rfl) (fun h1 => ?_) (fun h1 => ?_)
    · refine sSeq (rRunS [] [(4, .int .i64 18)] [] (by kernel_rfl) (sRet ?_))
      exact wRet () (0, 0) [] (.int .i64 18) [.tmp 4] rfl (by kernel_rfl) (by simp [refE, hz, hg, h1]) trivial (fun _ h => h.re (by simp [tabI, refF, refE, hz, hg, h1, hA3, FrS.o, FrS.dp, pgB]))
    · refine sSkip (sSeq (sReg (lRunS 5 [(3, 6, 0)] [(25, .int .i64 (IntKind.i64.wrap (f.refs + 1))), (24, .int .i64 f.refs), (23, .pointer (some ⟨f.b, 0, none⟩)), (22, .pointer (some ⟨f.b, 0, none⟩)), (21, .pointer (some ⟨f.b, 0, none⟩))] [f.b] (by kernel_rfl) (lOv 25 (iw (x := f.refs + 1) (by omega)) (by kernel_rfl) (lRunU 3 [(2, 6, 0)] [(27, .pointer (some ⟨f.b, 0, none⟩)), (26, .pointer (some ⟨f.b, 0, none⟩))] [(5, [(f.b, .cells #[.int .i64 (f.refs + 1), .int .i64 (f.pool : Int), .pointer f.dp] 70)])] [f.b] (by kernel_rfl) ?_)))))
      refine lEnd (sSeq (rRunS [] [(4, .int .i64 0)] [] (by kernel_rfl) (sRet ?_)))
      exact wRet () (0, 0) [] (.int .i64 0) [.tmp 4] rfl (by kernel_rfl) (by simp [refE, hz, hg, h1]) trivial (fun _ h => h.re (by simp [updI, tabI, refF, refE, hz, hg, h1, hB4, FrS.o, FrS.dp, pgB]))

theorem c_Refs (W : World) (base : List Blk) (T : TabS) (fs : List FrS) (he : T.es = fs.map FrS.ent) (n : Int) :
    CP Try.prog W base 29 #[.pointer (some ⟨T.tb, 0, none⟩), .int .i64 n] (tabI T fs) (refsV fs n) := by
  intro F
  refine ctIntro Try.func29 rfl rfl (by kernel_rfl) ?_
  refine sSeq (rRunS [] [(5, .int .i64 0), (4, .int .i64 0)] [] (by kernel_rfl) (sSeq (sReg (lRunS 2 [] [(10, .int .i64 n), (9, .pointer (some ⟨T.tb, 0, none⟩))] [] (by kernel_rfl) (lCallR [0, 1, 2, 3, 4] [0, 1, 2, 3, 4, 5] (c_find W base T fs he n true) (by kernel_rfl) (by kernel_rfl) (by kernel_rfl) (by kernel_rfl) (by kernel_rfl) ?_)))))
  rcases hg : getF fs n with _ | f
  · refine lOv 11 ((findV_true fs n).trans (by rw [hg])) (by kernel_rfl) (lRunS 5 [] [(7, .int .i64 34), (6, .pointer none), (13, .int .i64 34), (12, .pointer none), (8, .tuple #[.pointer none, .int .i64 34])] [] (by kernel_rfl) (lEnd (sSeq (sSeq (rRunS [] [(15, .bool true), (14, .int .i64 34)] [] (by kernel_rfl) ?_)))))
    refine sIfT (by kernel_rfl) (sSeq (rRunS [] [(5, .int .i64 34), (4, .int .i64 0), (16, .int .i64 34)] [] (by kernel_rfl) (sRet ?_)))
    exact wRet () (0, 0) [] (.tuple #[.int .i64 0, .int .i64 34]) [.tmp 4, .tmp 5] rfl (by kernel_rfl) (by simp [refsV, hg]) trivial (fun _ h => h)
  · refine lOv 11 ((findV_true fs n).trans (by rw [hg])) (by kernel_rfl) ?_
    obtain ⟨hn5, A1, B2, hA3, hB4⟩ := fr_open hg
    refine lRe (its' := [[(T.tb, .cells #[.slice (some ⟨T.pb, 0, none⟩) T.pools.length T.pc, .map (some T.ix), .map (some T.fm)] 63)], [(T.pb, .cells (arr encPool T.pools T.pr) 57)], [(T.ix, .map (mkM Value.string T.il) T.ic)], [(T.fm, .map (mkM (Value.int .i64) T.es) T.fc)], A1, [(f.b, .cells #[.int .i64 f.refs, .int .i64 (f.pool : Int), .pointer f.dp] 70)], pgB f, B2, F]) (by simp [tabI, hA3, FrS.o]) ?_
    refine lRunS 5 [] [(7, .int .i64 0), (6, .pointer (some ⟨f.b, 0, none⟩)), (13, .int .i64 0), (12, .pointer (some ⟨f.b, 0, none⟩)), (8, .tuple #[.pointer (some ⟨f.b, 0, none⟩), .int .i64 0])] [] (by kernel_rfl) (lEnd (sSeq (sSeq (rRunS [] [(15, .bool false), (14, .int .i64 0)] [] (by kernel_rfl) (sIfF (by kernel_rfl) ?_)))))
    refine sSkip (sSeq (rRunS [(3, 6, 0)] [(5, .int .i64 0), (4, .int .i64 f.refs), (20, .int .i64 f.refs), (19, .pointer (some ⟨f.b, 0, none⟩)), (18, .pointer (some ⟨f.b, 0, none⟩)), (17, .pointer (some ⟨f.b, 0, none⟩))] [f.b] (by kernel_rfl) (sRet ?_)))
    exact wRet () (0, 0) [] (.tuple #[.int .i64 f.refs, .int .i64 0]) [.tmp 4, .tmp 5] rfl (by kernel_rfl) (by simp [refsV, hg]) trivial (fun _ h => h.re (by simp [tabI, hA3, FrS.o]))

theorem c_Pool (W : World) (base : List Blk) (T : TabS) (fs : List FrS) (he : T.es = fs.map FrS.ent) (hpl : ∀ n f, getF fs n = some f → f.pool < T.pools.length ∧ ∃ p, T.pools[f.pool]? = some p) (n : Int) :
    CP Try.prog W base 31 #[.pointer (some ⟨T.tb, 0, none⟩), .int .i64 n] (tabI T fs) (poolV T.pools fs n) := by
  intro F
  refine ctIntro Try.func31 rfl rfl (by kernel_rfl) ?_
  refine sSeq (rRunS [] [(5, .int .i64 0), (4, .string ⟨#[]⟩)] [] (by kernel_rfl) (sSeq (sReg (lRunS 2 [] [(10, .int .i64 n), (9, .pointer (some ⟨T.tb, 0, none⟩))] [] (by kernel_rfl) (lCallR [0, 1, 2, 3, 4] [0, 1, 2, 3, 4, 5] (c_find W base T fs he n true) (by kernel_rfl) (by kernel_rfl) (by kernel_rfl) (by kernel_rfl) (by kernel_rfl) ?_)))))
  rcases hg : getF fs n with _ | f
  · refine lOv 11 ((findV_true fs n).trans (by rw [hg])) (by kernel_rfl) (lRunS 5 [] [(7, .int .i64 34), (6, .pointer none), (13, .int .i64 34), (12, .pointer none), (8, .tuple #[.pointer none, .int .i64 34])] [] (by kernel_rfl) (lEnd (sSeq (sSeq (rRunS [] [(15, .bool true), (14, .int .i64 34)] [] (by kernel_rfl) ?_)))))
    refine sIfT (by kernel_rfl) (sSeq (rRunS [] [(5, .int .i64 34), (4, .string ⟨#[]⟩), (16, .int .i64 34)] [] (by kernel_rfl) (sRet ?_)))
    exact wRet () (0, 0) [] (.tuple #[.string ⟨#[]⟩, .int .i64 34]) [.tmp 4, .tmp 5] rfl (by kernel_rfl) (by simp [poolV, hg]) trivial (fun _ h => h)
  · refine lOv 11 ((findV_true fs n).trans (by rw [hg])) (by kernel_rfl) ?_
    obtain ⟨hn5, A1, B2, hA3, hB4⟩ := fr_open hg
    refine lRe (its' := [[(T.tb, .cells #[.slice (some ⟨T.pb, 0, none⟩) T.pools.length T.pc, .map (some T.ix), .map (some T.fm)] 63)], [(T.pb, .cells (arr encPool T.pools T.pr) 57)], [(T.ix, .map (mkM Value.string T.il) T.ic)], [(T.fm, .map (mkM (Value.int .i64) T.es) T.fc)], A1, [(f.b, .cells #[.int .i64 f.refs, .int .i64 (f.pool : Int), .pointer f.dp] 70)], pgB f, B2, F]) (by simp [tabI, hA3, FrS.o]) ?_
    obtain ⟨hx0, p, hx⟩ := hpl n f hg
    refine lRunS 5 [] [(7, .int .i64 0), (6, .pointer (some ⟨f.b, 0, none⟩)), (13, .int .i64 0), (12, .pointer (some ⟨f.b, 0, none⟩)), (8, .tuple #[.pointer (some ⟨f.b, 0, none⟩), .int .i64 0])] [] (by kernel_rfl) (lEnd (sSeq (sSeq (rRunS [] [(15, .bool false), (14, .int .i64 0)] [] (by kernel_rfl) (sIfF (by kernel_rfl) ?_)))))
    refine sSkip (sSeq (rQuiet (by kernel_rfl) (by kernel_rfl) (qRun 8 [(3, 1, 0), (7, 6, 0)] [(24, .int .i64 (f.pool : Int)), (23, .pointer (some ⟨f.b, 1, none⟩)), (22, .pointer (some ⟨f.b, 0, none⟩)), (21, .pointer (some ⟨f.b, 0, none⟩)), (20, .slice (some ⟨T.pb, 0, none⟩) T.pools.length T.pc), (19, .pointer (some ⟨T.tb, 0, none⟩)), (18, .pointer (some ⟨T.tb, 0, none⟩)), (17, .pointer (some ⟨T.tb, 0, none⟩))] [f.b, T.tb] (by kernel_rfl) (qR (u := .pointer (some ⟨T.pb, f.pool * 5, none⟩)) (runIndex0 (T := 32) (E := 57) (n := T.pools.length) (c := T.pc) (b := T.pb) (k := 5) (ik := .i64) f.pool (by kernel_rfl) (by kernel_rfl) (by omega)) (by kernel_rfl) (by kernel_rfl) (by kernel_rfl) (qRun 1 [] [(26, .pointer (some ⟨T.pb, f.pool * 5, none⟩))] [] (by kernel_rfl) ?_)))))
    refine qR (u := .string p.name) (runLoadE (f := encPool) (T := 9) (b := T.pb) (k := 5) (T' := 57) (rest := T.pr) (v := .string p.name) (fun _ => rfl) 0 (2, 0) (by kernel_rfl) hx (by decide) rfl (by kernel_rfl)) (by kernel_rfl) (by kernel_rfl) (by kernel_rfl) (qRun 2 [] [(5, .int .i64 0), (4, .string p.name)] [] (by kernel_rfl) (qEnd (sRet ?_)))
    exact wRet () (0, 0) [] (.tuple #[.string p.name, .int .i64 0]) [.tmp 4, .tmp 5] rfl (by kernel_rfl) (by simp [poolV, hg, hx]) trivial (fun _ h => h.re (by simp [tabI, hA3, FrS.o]))

end Go.Proofs.Ytinpojleegfadaa
