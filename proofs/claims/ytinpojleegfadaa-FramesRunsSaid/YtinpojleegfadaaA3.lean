/- The walk of the iterator over runs of free frames. -/
import Derived.Test.YtinpojleegfadaaProg
import Derived.Test.YtinpojleegfadaaFr
set_option linter.unusedVariables false
set_option linter.unusedSimpArgs false
namespace Go.Proofs.Ytinpojleegfadaa
open Go.Sx Go.Sx.Fr
set_option maxRecDepth 100000
set_option linter.unusedSimpArgs false
theorem c_runs1 (W : World) (base : List Blk) (T : TabS) (fs : List FrS) (he : T.es = fs.map FrS.ent) (pb tp : Nat) (p : PoolS)
    (hp0 : 0 ≤ p.first) (hp1 : 0 ≤ p.count) (hp2 : p.first + p.count ≤ 4096) (hin : ∀ n, p.first ≤ n → n < p.first + p.count → ∃ f, getF fs n = some f) :
    IterOk Try.prog W base 42 #[] #[.pointer (some ⟨pb, 0, none⟩), .pointer (some ⟨tp, 0, none⟩)] ([(pb, .cells #[.string p.name, .int .i64 p.first, .int .i64 p.count, .bool p.general, .bool p.keep] 57)] :: [(tp, .cells #[.pointer (some ⟨T.tb, 0, none⟩)] 29)] :: tabI T fs)
      (fun c : Int × Int => #[.int .i64 c.1, .int .i64 c.2]) (runsP fs p) := by
  intro l σ B J K hY x0 hx F
  refine ctIntro Try.func42 rfl rfl (by kernel_rfl) ?_
  refine sSeq (sReg (lRunS 5 [(1, 1, 0), (3, 1, 0)] [(11, .int .i64 (IntKind.i64.wrap (p.first + p.count))), (10, .int .i64 p.count), (9, .pointer (some ⟨pb, 2, none⟩)), (8, .int .i64 p.first), (7, .pointer (some ⟨pb, 1, none⟩))] [pb, pb] (by kernel_rfl) (lOv 11 (iw (x := p.first + p.count) (by omega)) (by kernel_rfl) (lRunS 1 [] [(4, .int .i64 (p.first + p.count))] [] (by kernel_rfl) (lEnd ?_)))))
  refine sSeq (rRunS [(1, 1, 0)] [(5, .int .i64 p.first), (13, .int .i64 p.first), (12, .pointer (some ⟨pb, 1, none⟩))] [pb] (by kernel_rfl) (sBlock ?_))
  refine sLoop (fun (x_ : List (Int × Int) × Int × σ) => match x_ with | (rs, n, x) => [(5, .int .i64 n), (4, .int .i64 (p.first + p.count)), (2, .pointer (some ⟨tp, 0, none⟩)), (1, .pointer (some ⟨pb, 0, none⟩)), (0, .func (.yield l) #[] #[])]) (fun (x_ : List (Int × Int) × Int × σ) => match x_ with | (rs, n, x) => [[(pb, .cells #[.string p.name, .int .i64 p.first, .int .i64 p.count, .bool p.general, .bool p.keep] 57)], [(tp, .cells #[.pointer (some ⟨T.tb, 0, none⟩)] 29)], [(T.tb, .cells #[.slice (some ⟨T.pb, 0, none⟩) T.pools.length T.pc, .map (some T.ix), .map (some T.fm)] 63)], [(T.pb, .cells (arr encPool T.pools T.pr) 57)], [(T.ix, .map (mkM Value.string T.il) T.ic)], [(T.fm, .map (mkM (Value.int .i64) T.es) T.fc)], frB fs, B x, F]) (fun (x_ : List (Int × Int) × Int × σ) => match x_ with | (rs, n, x) => J rs x ∧ p.first ≤ n ∧ n ≤ p.first + p.count + 1 ∧ rs ++ runsL (freeB fs) (p.first + p.count - n).toNat n (p.first + p.count) = runsP fs p) (fun (x_ : List (Int × Int) × Int × σ) => match x_ with | (rs, n, x) => (p.first + p.count - n).toNat) ([], p.first, x0) ⟨hx, by omega, by omega, by simp [runsP]⟩ (by kernel_rfl) rfl ?_
  rintro ⟨rs, n, x⟩ ⟨hJ, hn0, hn1, hR⟩
  refine sSeq (sSeq (rRunS [] [(16, .bool (decide (n < (p.first + p.count)))), (15, .int .i64 (p.first + p.count)), (14, .int .i64 n)] [] (by kernel_rfl) ?_))
  refine sIfP (bpD (n < (p.first + p.count))) (by kernel_rfl) (fun hn => ?_) (fun hn => ?_)
  · refine sSkip (sSeq (sBlock (sSeq (rRunS [] [(6, .int .i64 n), (19, .int .i64 n)] [] (by kernel_rfl) (sSeq ?_)))))
    refine sBlock ?_
    refine sLoop (fun (m : Int) => [(6, .int .i64 n), (5, .int .i64 m), (4, .int .i64 (p.first + p.count)), (2, .pointer (some ⟨tp, 0, none⟩)), (1, .pointer (some ⟨pb, 0, none⟩)), (0, .func (.yield l) #[] #[])]) (fun (m : Int) => [[(pb, .cells #[.string p.name, .int .i64 p.first, .int .i64 p.count, .bool p.general, .bool p.keep] 57)], [(tp, .cells #[.pointer (some ⟨T.tb, 0, none⟩)] 29)], [(T.tb, .cells #[.slice (some ⟨T.pb, 0, none⟩) T.pools.length T.pc, .map (some T.ix), .map (some T.fm)] 63)], [(T.pb, .cells (arr encPool T.pools T.pr) 57)], [(T.ix, .map (mkM Value.string T.il) T.ic)], [(T.fm, .map (mkM (Value.int .i64) T.es) T.fc)], frB fs, B x, F]) (fun (m : Int) => n ≤ m ∧ m ≤ p.first + p.count ∧ ∀ j, n ≤ j → j < m → freeB fs j = true) (fun (m : Int) => (p.first + p.count - m).toNat) n ⟨by omega, by omega, fun j a b => by omega⟩ (by kernel_rfl) rfl ?_
    rintro m ⟨hm0, hm1, hm2⟩
    refine sSeq (sSeq (sReg (lRunS 4 [] [(23, .bool (decide (m < (p.first + p.count)))), (22, .bool (decide (m < (p.first + p.count)))), (21, .int .i64 (p.first + p.count)), (20, .int .i64 m)] [] (by kernel_rfl) ?_)))
    rcases Classical.em (m < p.first + p.count) with hlt | hlt
    · refine lOv 23 (ovT (bpD (m < p.first + p.count)) hlt) (by kernel_rfl) ?_
      obtain ⟨f, hg⟩ := hin m (by omega) hlt
      refine lRunS 5 [(0, 2, 0), (3, 3, 0)] [(28, .int .i64 m), (27, .map (some T.fm)), (26, .pointer (some ⟨T.tb, 2, none⟩)), (25, .pointer (some ⟨T.tb, 0, none⟩)), (24, .pointer (some ⟨T.tb, 0, none⟩))] [T.tb, tp] (by kernel_rfl) (lR (u := (lkM T.es m).getD (.pointer none)) (runLook (T := 61) (b := T.fm) (K := 3) (E := 67) (l := T.es) (clk := T.fc) (by kernel_rfl) (keyInt (k := .i64) (by kernel_rfl)) (.pointer none) (by kernel_rfl) (6, 0) m (by kernel_rfl)) (by kernel_rfl) (by kernel_rfl) (by kernel_rfl) (lOv 29 (T.lk1 he hg) (by kernel_rfl) ?_))
      obtain ⟨hn5, A1, B2, hA3, hB4⟩ := fr_open hg
      refine lRe (its' := [[(pb, .cells #[.string p.name, .int .i64 p.first, .int .i64 p.count, .bool p.general, .bool p.keep] 57)], [(tp, .cells #[.pointer (some ⟨T.tb, 0, none⟩)] 29)], [(T.tb, .cells #[.slice (some ⟨T.pb, 0, none⟩) T.pools.length T.pc, .map (some T.ix), .map (some T.fm)] 63)], [(T.pb, .cells (arr encPool T.pools T.pr) 57)], [(T.ix, .map (mkM Value.string T.il) T.ic)], [(T.fm, .map (mkM (Value.int .i64) T.es) T.fc)], A1, [(f.b, .cells #[.int .i64 f.refs, .int .i64 (f.pool : Int), .pointer f.dp] 70)], pgB f, B2, B x, F]) (by simp [tabI, hA3, FrS.o]) ?_
      refine lRunS 5 [(2, 8, 0)] [(34, .bool (decide (f.refs = (0 : Int)))), (33, .bool (decide (f.refs = (0 : Int)))), (32, .int .i64 f.refs), (31, .pointer (some ⟨f.b, 0, none⟩)), (30, .pointer (some ⟨f.b, 0, none⟩))] [f.b] (by kernel_rfl) ?_
      refine lRe (its' := [[(pb, .cells #[.string p.name, .int .i64 p.first, .int .i64 p.count, .bool p.general, .bool p.keep] 57)], [(tp, .cells #[.pointer (some ⟨T.tb, 0, none⟩)] 29)], [(T.tb, .cells #[.slice (some ⟨T.pb, 0, none⟩) T.pools.length T.pc, .map (some T.ix), .map (some T.fm)] 63)], [(T.pb, .cells (arr encPool T.pools T.pr) 57)], [(T.ix, .map (mkM Value.string T.il) T.ic)], [(T.fm, .map (mkM (Value.int .i64) T.es) T.fc)], frB fs, B x, F]) (by simp [tabI, hA3, FrS.o]) ?_
      refine lEnd ?_
      refine sIfP (bpD (f.refs = (0 : Int))) (by kernel_rfl) (fun h2 => ?_) (fun h2 => ?_)
      · have hf := h2
        refine sSkip (sBlock (sReg (lRunS 2 [] [(36, .int .i64 (IntKind.i64.wrap (m + 1))), (35, .int .i64 m)] [] (by kernel_rfl) (lOv 36 (iw (x := m + 1) (by omega)) (by kernel_rfl) (lRunS 1 [] [(5, .int .i64 (m + 1))] [] (by kernel_rfl) ?_)))))
        refine lEnd (sEnd ?_)
        exact sAgain (m + 1) ⟨by omega, by omega, fun j a b => (Int.lt_or_le j m).elim (hm2 j a) fun hj => (show m = j by omega) ▸ freeB_true hg hf⟩ (by first | omega | (simp only []; omega)) (by kernel_rfl) rfl
      · have hm : scanF (freeB fs) (p.first + p.count - n).toNat n = m := scanF_eq _ _ _ _ (by omega) (by omega) hm2 (Or.inr (freeB_false hg h2))
        refine sExit (by kernel_rfl) (sSeq (sReg (lRunS 4 [] [(40, .bool (decide (m > n))), (39, .bool (decide (m > n))), (38, .int .i64 n), (37, .int .i64 m)] [] (by kernel_rfl) ?_)))
        rcases Classical.em (m > n) with h3 | h3
        · refine lOv 40 (ovT (bpD (m > n)) h3) (by kernel_rfl) (lRunS 3 [] [(43, .int .i64 m), (42, .int .i64 n), (41, .func (.yield l) #[] #[])] [] (by kernel_rfl) ?_)
          refine lYield [7] (hY rs (n, m) x hJ ⟨_, (by rw [← hR, runsL_step _ hn hm, if_pos (by omega)]; rfl)⟩) (by kernel_rfl) (by kernel_rfl) (by kernel_rfl) (by kernel_rfl) ?_
          rintro r hr
          refine lRunS 2 [] [(46, .bool (!r.2)), (45, .bool (!r.2))] [] (by kernel_rfl) (lEnd ?_)
          refine sIfPn (bpR r.2) (by kernel_rfl) (fun h4 => ?_) (fun h4 => ?_)
          · have hr2 := (hr.resolve_left fun q => h4 q.1).2
            refine sRet ?_
            exact wRet r.1 (0, 0) [] (.tuple #[]) [] rfl (by kernel_rfl) rfl (.inr ⟨rs ++ [(n, m)], runsL (freeB fs) (p.first + p.count - (m + 1)).toNat (m + 1) (p.first + p.count), by rw [← hR, runsL_step _ hn hm, if_pos (by omega)]; simp, hr2⟩) (fun _ h => h.pick [1, 2, 3, 4, 5, 6, 7, 0, 8] (by kernel_rfl) (by kernel_rfl))
          · have hr2 := (hr.resolve_right fun q => by rw [q.1] at h4; cases h4).2
            refine sSkip (sEnd (sReg (lRunS 2 [] [(18, .int .i64 (IntKind.i64.wrap (m + 1))), (17, .int .i64 m)] [] (by kernel_rfl) (lOv 18 (iw (x := m + 1) (by omega)) (by kernel_rfl) (lRunS 1 [] [(5, .int .i64 (m + 1))] [] (by kernel_rfl) ?_)))))
            refine lEnd ?_
            exact sPick [1, 2, 3, 4, 5, 6, 7, 0, 8] (by kernel_rfl) (by kernel_rfl) (sAgain (rs ++ [(n, m)], m + 1, r.1) ⟨hr2, by omega, by omega, by rw [← hR, runsL_step _ hn hm, if_pos (by omega)]; simp⟩ (by first | omega | (simp only []; omega)) (by kernel_rfl) rfl)
        · refine lOv 40 (ovF (bpD (m > n)) h3) (by kernel_rfl) (lRunS 6 [] [(46, .bool false), (45, undef), (44, undef), (43, undef), (42, undef), (41, undef)] [] (by kernel_rfl) (lEnd (sIfF (by kernel_rfl) (sSkip (sEnd ?_)))))
          refine sReg (lRunS 2 [] [(18, .int .i64 (IntKind.i64.wrap (m + 1))), (17, .int .i64 m)] [] (by kernel_rfl) (lOv 18 (iw (x := m + 1) (by omega)) (by kernel_rfl) (lRunS 1 [] [(5, .int .i64 (m + 1))] [] (by kernel_rfl) (lEnd ?_))))
          exact sAgain (rs, m + 1, x) ⟨hJ, by omega, by omega, by rw [← hR, runsL_step _ hn hm, if_neg (by omega)]; simp⟩ (by first | omega | (simp only []; omega)) (by kernel_rfl) rfl
    · refine lOv 23 (ovF (bpD (m < p.first + p.count)) hlt) (by kernel_rfl) ?_
      have hm : scanF (freeB fs) (p.first + p.count - n).toNat n = m := scanF_eq _ _ _ _ (by omega) (by omega) hm2 (Or.inl (by omega))
      refine lRunS 11 [] [(34, .bool false), (33, undef), (32, undef), (31, undef), (30, undef), (29, undef), (28, undef), (27, undef), (26, undef), (25, undef), (24, undef)] [] (by kernel_rfl) (lEnd (sIfF (by kernel_rfl) (sExit (by kernel_rfl) (sSeq (sReg ?_)))))
      refine lRunS 4 [] [(40, .bool (decide (m > n))), (39, .bool (decide (m > n))), (38, .int .i64 n), (37, .int .i64 m)] [] (by kernel_rfl) ?_
      rcases Classical.em (m > n) with h5 | h5
      · refine lOv 40 (ovT (bpD (m > n)) h5) (by kernel_rfl) (lRunS 3 [] [(43, .int .i64 m), (42, .int .i64 n), (41, .func (.yield l) #[] #[])] [] (by kernel_rfl) ?_)
        refine lYield [7] (hY rs (n, m) x hJ ⟨_, (by rw [← hR, runsL_step _ hn hm, if_pos (by omega)]; rfl)⟩) (by kernel_rfl) (by kernel_rfl) (by kernel_rfl) (by kernel_rfl) ?_
        rintro r hr
        refine lRunS 2 [] [(46, .bool (!r.2)), (45, .bool (!r.2))] [] (by kernel_rfl) (lEnd ?_)
        refine sIfPn (bpR r.2) (by kernel_rfl) (fun h6 => ?_) (fun h6 => ?_)
        · have hr2 := (hr.resolve_left fun q => h6 q.1).2
          refine sRet ?_
          exact wRet r.1 (0, 0) [] (.tuple #[]) [] rfl (by kernel_rfl) rfl (.inr ⟨rs ++ [(n, m)], runsL (freeB fs) (p.first + p.count - (m + 1)).toNat (m + 1) (p.first + p.count), by rw [← hR, runsL_step _ hn hm, if_pos (by omega)]; simp, hr2⟩) (fun _ h => h.pick [1, 2, 3, 4, 5, 6, 7, 0, 8] (by kernel_rfl) (by kernel_rfl))
        · have hr2 := (hr.resolve_right fun q => by rw [q.1] at h6; cases h6).2
          refine sSkip (sEnd (sReg (lRunS 2 [] [(18, .int .i64 (IntKind.i64.wrap (m + 1))), (17, .int .i64 m)] [] (by kernel_rfl) (lOv 18 (iw (x := m + 1) (by omega)) (by kernel_rfl) (lRunS 1 [] [(5, .int .i64 (m + 1))] [] (by kernel_rfl) ?_)))))
          refine lEnd ?_
          exact sPick [1, 2, 3, 4, 5, 6, 7, 0, 8] (by kernel_rfl) (by kernel_rfl) (sAgain (rs ++ [(n, m)], m + 1, r.1) ⟨hr2, by omega, by omega, by rw [← hR, runsL_step _ hn hm, if_pos (by omega)]; simp⟩ (by first | omega | (simp only []; omega)) (by kernel_rfl) rfl)
      · refine lOv 40 (ovF (bpD (m > n)) h5) (by kernel_rfl) (lRunS 6 [] [(46, .bool false), (45, undef), (44, undef), (43, undef), (42, undef), (41, undef)] [] (by kernel_rfl) (lEnd (sIfF (by kernel_rfl) (sSkip (sEnd ?_)))))
        refine sReg (lRunS 2 [] [(18, .int .i64 (IntKind.i64.wrap (m + 1))), (17, .int .i64 m)] [] (by kernel_rfl) (lOv 18 (iw (x := m + 1) (by omega)) (by kernel_rfl) (lRunS 1 [] [(5, .int .i64 (m + 1))] [] (by kernel_rfl) (lEnd ?_))))
        exact sAgain (rs, m + 1, x) ⟨hJ, by omega, by omega, by rw [← hR, runsL_step _ hn hm, if_neg (by omega)]; simp⟩ (by first | omega | (simp only []; omega)) (by kernel_rfl) rfl
  · refine sExit (by kernel_rfl) ?_
    exact sNil (wFall x (0, 0) [] (.tuple #[]) [] rfl (by kernel_rfl) rfl (.inl (by rw [← hR, runsL_end _ hn, List.append_nil]; exact hJ)) (fun _ h => h))

theorem c_runs (W : World) (base : List Blk) (T : TabS) (p : PoolS) :
    CF Try.prog W base 24 #[.pointer (some ⟨T.tb, 0, none⟩), .agg #[.string p.name, .int .i64 p.first, .int .i64 p.count, .bool p.general, .bool p.keep]] [] (fun r : Nat × Nat => .func (.func 42) #[] #[.pointer (some ⟨r.1, 0, none⟩), .pointer (some ⟨r.2, 0, none⟩)])
      (fun r => [[(r.1, .cells #[.string p.name, .int .i64 p.first, .int .i64 p.count, .bool p.general, .bool p.keep] 57)], [(r.2, .cells #[.pointer (some ⟨T.tb, 0, none⟩)] 29)]]) (fun _ => True) := by
  intro F
  refine ctIntro Try.func24 rfl rfl (by kernel_rfl) ?_
  refine sSeq (sReg ?_)
  refine lRunN 1 [] (fun b1 => [(2, .pointer (some ⟨b1, 0, none⟩))]) (fun b1 => []) (fun b1 => .cells #[.pointer (some ⟨T.tb, 0, none⟩)] 29) (fun b1 => []) (fun b1 => by kernel_rfl) (fun b1 => ?_)
  refine lRunN 2 [] (fun b2 => [(4, .nilFunc), (3, .pointer (some ⟨b2, 0, none⟩))]) (fun b2 => []) (fun b2 => .cells #[.string p.name, .int .i64 p.first, .int .i64 p.count, .bool p.general, .bool p.keep] 57) (fun b2 => []) (fun b2 => by kernel_rfl) (fun b2 => ?_)
  refine lEnd (sSeq (rRunS [] [(4, .func (.func 42) #[] #[.pointer (some ⟨b2, 0, none⟩), .pointer (some ⟨b1, 0, none⟩)]), (5, .func (.func 42) #[] #[.pointer (some ⟨b2, 0, none⟩), .pointer (some ⟨b1, 0, none⟩)])] [] (by kernel_rfl) (sRet ?_)))
  exact wRet (b2, b1) (0, 0) [] (.func (.func 42) #[] #[.pointer (some ⟨b2, 0, none⟩), .pointer (some ⟨b1, 0, none⟩)]) [.tmp 4] rfl (by kernel_rfl) rfl trivial (fun _ h => h.pick [2, 1, 0] (by kernel_rfl) (by kernel_rfl))

end Go.Proofs.Ytinpojleegfadaa
