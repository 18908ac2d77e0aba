/- The walk of add. -/
import Derived.Test.YtinpojleegfadaaProg
import Derived.Test.YtinpojleegfadaaFu
import Derived.Test.YtinpojleegfadaaB2
namespace Go.Proofs.Ytinpojleegfadaa
open Go.Sx Go.Sx.Fr
set_option maxRecDepth 100000
set_option linter.unusedSimpArgs false
set_option linter.unusedVariables false
theorem c_add (W : World) (base : List Blk) (B : TabS) (pre : List PoolS) (fs : List FrS) (p : PoolS) (hfs : FsNew pre fs) (hb : PoolsB pre) (hpl : pre.length ≤ 16) :
    CF Try.prog W base 19 #[.pointer (some ⟨B.tb, 0, none⟩), .int .i64 (pre.length : Int), .agg #[.string p.name, .int .i64 p.first, .int .i64 p.count, .bool p.general, .bool p.keep]] (tabI (bld B pre fs) fs)
      (fun _ : List PoolS × List FrS => .int .i64 (errP pre p)) (fun r => tabI (bld B r.1 r.2) r.2) (fun r => errP pre p = 0 → r.1 = pre ++ [p] ∧ FsNew (pre ++ [p]) r.2) := by
  intro F
  refine ctIntro Try.func19 rfl rfl (by kernel_rfl) ?_
  refine sSeq ?_
  refine rRunN [] (fun b1 => [(6, .int .i64 0), (5, .pointer (some ⟨b1, 0, none⟩))]) (fun b1 => []) (fun b1 => .cells #[.string p.name, .int .i64 p.first, .int .i64 p.count, .bool p.general, .bool p.keep] 57) (fun b1 => []) (fun b1 => by kernel_rfl) (fun b1 => ?_)
  refine sSeq (rQuiet (by kernel_rfl) (by kernel_rfl) (qRun 6 [(3, 1, 0), (5, 7, 0)] [(16, .string p.name), (15, .pointer (some ⟨b1, 0, none⟩)), (14, .map (some B.ix)), (13, .pointer (some ⟨B.tb, 1, none⟩)), (12, .pointer (some ⟨B.tb, 0, none⟩)), (11, .pointer (some ⟨B.tb, 0, none⟩))] [b1, B.tb] (by kernel_rfl) (qR (u := .tuple #[(lkM (nameL pre 0) p.name).getD (.int .i64 0), .bool ((lkM (nameL pre 0) p.name).isSome)]) (runLookOk (T := 60) (b := B.ix) (K := 9) (E := 3) (l := (nameL pre 0)) (clk := pre.length) (by kernel_rfl) (keyStr (by kernel_rfl)) (.int .i64 0) (by kernel_rfl) (3, 0) p.name (by kernel_rfl)) (by kernel_rfl) (by kernel_rfl) (by kernel_rfl) ?_)))
  rcases hi : idxOf pre p.name with _ | j
  · refine qOv (v := .tuple #[.int .i64 0, .bool false]) (v0 := .tuple #[(lkM (nameL pre 0) p.name).getD (.int .i64 0), .bool ((lkM (nameL pre 0) p.name).isSome)]) 17 (by rw [lk_nameL, hi]; rfl) (by kernel_rfl) (qRun 5 [] [(8, .bool false), (7, .int .i64 0), (19, .bool false), (18, .int .i64 0), (10, .tuple #[.int .i64 0, .bool false])] [] (by kernel_rfl) (qEnd (sSeq (sBlock (sSeq ?_)))))
    refine rRunS [(1, 7, 0)] [(20, .bool (decide ((p.name.size : Int) > (64 : Int)))), (24, .bool (decide ((p.name.size : Int) > (64 : Int)))), (23, .int .i64 (p.name.size : Int)), (22, .string p.name), (21, .pointer (some ⟨b1, 0, none⟩))] [b1] (by kernel_rfl) ?_
    refine sIfP (bpD ((p.name.size : Int) > (64 : Int))) (by kernel_rfl) (fun h1 => ?_) (fun h1 => ?_)
    · have hs1 : p.name.size > 64 := by omega
      refine sSeq (rRunS [] [(6, .int .i64 21)] [] (by kernel_rfl) (sRet ?_))
      have he : errP pre p = 21 := by unfold errP; rw [if_pos hs1]
      exact wRet (pre, fs) (0, 0) [] (.int .i64 21) [.tmp 6] rfl (by kernel_rfl) (by rw [he]) (fun h => by rw [he] at h; cases h) (fun _ h => h.pick [0, 1, 2, 3, 4, 5] (by kernel_rfl) (by kernel_rfl))
    · have hs1 : ¬ p.name.size > 64 := by omega
      refine sSeq (rRunS [(1, 7, 0)] [(25, .bool (p.name.toList == (⟨#[]⟩ : ByteArray).toList)), (28, .bool (p.name.toList == (⟨#[]⟩ : ByteArray).toList)), (27, .string p.name), (26, .pointer (some ⟨b1, 0, none⟩))] [b1] (by kernel_rfl) ?_)
      refine sIfP (bpS p.name (⟨#[]⟩ : ByteArray)) (by kernel_rfl) (fun h2 => ?_) (fun h2 => ?_)
      · have hs2 : p.name.size = 0 := ba_empty.1 h2
        refine sSeq (rRunS [] [(6, .int .i64 9)] [] (by kernel_rfl) (sRet ?_))
        have he : errP pre p = 9 := by unfold errP; rw [if_neg hs1, if_pos hs2]
        exact wRet (pre, fs) (0, 0) [] (.int .i64 9) [.tmp 6] rfl (by kernel_rfl) (by rw [he]) (fun h => by rw [he] at h; cases h) (fun _ h => h.pick [0, 1, 2, 3, 4, 5] (by kernel_rfl) (by kernel_rfl))
      · have hs2 : ¬ p.name.size = 0 := fun q => h2 (ba_empty.2 q)
        refine sSeq (rRunS [] [(29, .bool false), (30, .bool false)] [] (by kernel_rfl) (sIfF (by kernel_rfl) (sSeq (sReg (lRunS 3 [(1, 7, 0)] [(34, .bool (decide (p.count < (1 : Int)))), (33, .int .i64 p.count), (32, .pointer (some ⟨b1, 2, none⟩))] [b1] (by kernel_rfl) ?_)))))
        rcases Classical.em (p.count < (1 : Int)) with h3 | h3
        · refine lOv (v := .bool true) (v0 := .bool (decide (p.count < (1 : Int)))) 34 (ovT (bpD (p.count < (1 : Int))) h3) (by kernel_rfl) (lRunS 19 [] [(31, .bool true), (52, .bool true), (51, undef), (50, undef), (49, undef), (48, undef), (47, undef), (46, undef), (45, .bool true), (44, .bool true), (43, undef), (42, undef), (41, undef), (40, .bool true), (39, .bool true), (38, undef), (37, undef), (36, undef), (35, .bool true)] [] (by kernel_rfl) (lEnd (sIfT (by kernel_rfl) (sSeq (rRunS [] [(6, .int .i64 34)] [] (by kernel_rfl) ?_)))))
          refine sRet ?_
          have hr : p.count < 1 ∨ p.first < 0 ∨ p.count > 4096 ∨ p.first > 4096 - p.count := by omega
          have he : errP pre p = 34 := by unfold errP; rw [if_neg hs1, if_neg hs2, if_neg (by rw [hi]; simp), if_pos hr]
          exact wRet (pre, fs) (0, 0) [] (.int .i64 34) [.tmp 6] rfl (by kernel_rfl) (by rw [he]) (fun h => by rw [he] at h; cases h) (fun _ h => h.pick [0, 1, 2, 3, 4, 5] (by kernel_rfl) (by kernel_rfl))
        · refine lOv (v := .bool false) (v0 := .bool (decide (p.count < (1 : Int)))) 34 (ovF (bpD (p.count < (1 : Int))) h3) (by kernel_rfl) (lRunS 5 [(2, 7, 0)] [(39, .bool (decide (p.first < (0 : Int)))), (38, .bool (decide (p.first < (0 : Int)))), (37, .int .i64 p.first), (36, .pointer (some ⟨b1, 1, none⟩)), (35, .bool false)] [b1] (by kernel_rfl) ?_)
          rcases Classical.em (p.first < (0 : Int)) with h4 | h4
          · refine lOv (v := .bool true) (v0 := .bool (decide (p.first < (0 : Int)))) 39 (ovT (bpD (p.first < (0 : Int))) h4) (by kernel_rfl) (lRunS 14 [] [(31, .bool true), (52, .bool true), (51, undef), (50, undef), (49, undef), (48, undef), (47, undef), (46, undef), (45, .bool true), (44, .bool true), (43, undef), (42, undef), (41, undef), (40, .bool true)] [] (by kernel_rfl) (lEnd (sIfT (by kernel_rfl) (sSeq (rRunS [] [(6, .int .i64 34)] [] (by kernel_rfl) ?_)))))
            refine sRet ?_
            have hr : p.count < 1 ∨ p.first < 0 ∨ p.count > 4096 ∨ p.first > 4096 - p.count := by omega
            have he : errP pre p = 34 := by unfold errP; rw [if_neg hs1, if_neg hs2, if_neg (by rw [hi]; simp), if_pos hr]
            exact wRet (pre, fs) (0, 0) [] (.int .i64 34) [.tmp 6] rfl (by kernel_rfl) (by rw [he]) (fun h => by rw [he] at h; cases h) (fun _ h => h.pick [0, 1, 2, 3, 4, 5] (by kernel_rfl) (by kernel_rfl))
          · refine lOv (v := .bool false) (v0 := .bool (decide (p.first < (0 : Int)))) 39 (ovF (bpD (p.first < (0 : Int))) h4) (by kernel_rfl) (lRunS 5 [(2, 7, 0)] [(44, .bool (decide (p.count > (4096 : Int)))), (43, .bool (decide (p.count > (4096 : Int)))), (42, .int .i64 p.count), (41, .pointer (some ⟨b1, 2, none⟩)), (40, .bool false)] [b1] (by kernel_rfl) ?_)
            rcases Classical.em (p.count > (4096 : Int)) with h5 | h5
            · refine lOv (v := .bool true) (v0 := .bool (decide (p.count > (4096 : Int)))) 44 (ovT (bpD (p.count > (4096 : Int))) h5) (by kernel_rfl) (lRunS 9 [] [(31, .bool true), (52, .bool true), (51, undef), (50, undef), (49, undef), (48, undef), (47, undef), (46, undef), (45, .bool true)] [] (by kernel_rfl) (lEnd (sIfT (by kernel_rfl) (sSeq (rRunS [] [(6, .int .i64 34)] [] (by kernel_rfl) ?_)))))
              refine sRet ?_
              have hr : p.count < 1 ∨ p.first < 0 ∨ p.count > 4096 ∨ p.first > 4096 - p.count := by omega
              have he : errP pre p = 34 := by unfold errP; rw [if_neg hs1, if_neg hs2, if_neg (by rw [hi]; simp), if_pos hr]
              exact wRet (pre, fs) (0, 0) [] (.int .i64 34) [.tmp 6] rfl (by kernel_rfl) (by rw [he]) (fun h => by rw [he] at h; cases h) (fun _ h => h.pick [0, 1, 2, 3, 4, 5] (by kernel_rfl) (by kernel_rfl))
            · refine lOv (v := .bool false) (v0 := .bool (decide (p.count > (4096 : Int)))) 44 (ovF (bpD (p.count > (4096 : Int))) h5) (by kernel_rfl) (lRunS 6 [(2, 7, 0), (4, 7, 0)] [(50, .int .i64 (IntKind.i64.wrap (4096 - p.count))), (49, .int .i64 p.count), (48, .pointer (some ⟨b1, 2, none⟩)), (47, .int .i64 p.first), (46, .pointer (some ⟨b1, 1, none⟩)), (45, .bool false)] [b1, b1] (by kernel_rfl) (lOv 50 (iw (x := 4096 - p.count) (by omega)) (by kernel_rfl) (lRunS 3 [] [(31, .bool (decide (p.first > (4096 - p.count)))), (52, .bool (decide (p.first > (4096 - p.count)))), (51, .bool (decide (p.first > (4096 - p.count))))] [] (by kernel_rfl) (lEnd ?_))))
              refine sIfP (bpD (p.first > (4096 - p.count))) (by kernel_rfl) (fun h6 => ?_) (fun h6 => ?_)
              · refine sSeq (rRunS [] [(6, .int .i64 34)] [] (by kernel_rfl) (sRet ?_))
                have hr : p.count < 1 ∨ p.first < 0 ∨ p.count > 4096 ∨ p.first > 4096 - p.count := by omega
                have he : errP pre p = 34 := by unfold errP; rw [if_neg hs1, if_neg hs2, if_neg (by rw [hi]; simp), if_pos hr]
                exact wRet (pre, fs) (0, 0) [] (.int .i64 34) [.tmp 6] rfl (by kernel_rfl) (by rw [he]) (fun h => by rw [he] at h; cases h) (fun _ h => h.pick [0, 1, 2, 3, 4, 5] (by kernel_rfl) (by kernel_rfl))
              · have hr : ¬ (p.count < 1 ∨ p.first < 0 ∨ p.count > 4096 ∨ p.first > 4096 - p.count) := by omega
                refine sSkip (sEnd (sSeq ?_))
                refine rHeld (by kernel_rfl) (by kernel_rfl) [[(B.tb, .cells #[.slice (some ⟨B.pb, 0, none⟩) B.pools.length B.pc, .map (some B.ix), .map (some B.fm)] 63)], [(B.pb, .cells (arr encPool B.pools B.pr) 57)], [(B.fm, .map (mkM (Value.int .i64) (fs.map FrS.ent)) fs.length)], frB fs, F, [(b1, .cells #[.string p.name, .int .i64 p.first, .int .i64 p.count, .bool p.general, .bool p.keep] 57)]] ?_
                refine hTakes [0, 1, 2, 3, 4, 5, 6] [(3, 1, 0), (5, 6, 0)] [0, 1, 3, 4, 5, 6] [(59, .int .i64 (pre.length : Int)), (58, .string p.name), (57, .pointer (some ⟨b1, 0, none⟩)), (56, .map (some B.ix)), (55, .pointer (some ⟨B.tb, 1, none⟩)), (54, .pointer (some ⟨B.tb, 0, none⟩)), (53, .pointer (some ⟨B.tb, 0, none⟩))] [b1, B.tb] (by kernel_rfl) (by kernel_rfl) (by kernel_rfl) (by kernel_rfl) ?_
                refine hOS 7 [0, 1, 3, 4, 5, 6] (OS.x (u := fun _ => undef) (by kernel_rfl) (by kernel_rfl) (runUpd (T := 60) (b := B.ix) (K := 9) (E := 3) (l := (nameL pre 0)) (clk := pre.length) (by kernel_rfl) (keyStr (by kernel_rfl)) 2 0 p.name (.int .i64 (pre.length : Int)) (by kernel_rfl)) (fun _ => by kernel_rfl)) (by kernel_rfl) (by kernel_rfl) (by kernel_rfl) (fun _ => by kernel_rfl) ?_
                rintro ⟨⟩ -
                refine hEnd (by kernel_rfl) (sSeq (sSeq (rRunS [(1, 7, 0)] [(9, .int .i64 p.first), (61, .int .i64 p.first), (60, .pointer (some ⟨b1, 1, none⟩))] [b1] (by kernel_rfl) (sBlock ?_))))
                refine sRe (its' := [[(B.tb, .cells #[.slice (some ⟨B.pb, 0, none⟩) B.pools.length B.pc, .map (some B.ix), .map (some B.fm)] 63)], [(B.pb, .cells (arr encPool B.pools B.pr) 57)], [(B.ix, .map (mkM Value.string (nameL (pre ++ [p]) 0)) ((pre ++ [p]).length))], [(B.fm, .map (mkM (Value.int .i64) (fs.map FrS.ent)) fs.length)], frB fs, F, [(b1, .cells #[.string p.name, .int .i64 p.first, .int .i64 p.count, .bool p.general, .bool p.keep] 57)]]) (by rw [nameL_in hi, show (lkM (nameL pre 0) p.name).isSome = false by rw [lk_nameL, hi]; rfl, show (pre ++ [p]).length = pre.length + 1 by simp]; rfl) ?_
                have hcut := fsNew_start (p := p) hfs
                refine sLoop (fun (x_ : Int × List FrS) => match x_ with | (n, g) => [(9, .int .i64 n), (5, .pointer (some ⟨b1, 0, none⟩)), (1, .int .i64 (pre.length : Int)), (0, .pointer (some ⟨B.tb, 0, none⟩))]) (fun (x_ : Int × List FrS) => match x_ with | (n, g) => [[(B.tb, .cells #[.slice (some ⟨B.pb, 0, none⟩) B.pools.length B.pc, .map (some B.ix), .map (some B.fm)] 63)], [(B.pb, .cells (arr encPool B.pools B.pr) 57)], [(B.ix, .map (mkM Value.string (nameL (pre ++ [p]) 0)) ((pre ++ [p]).length))], [(B.fm, .map (mkM (Value.int .i64) (g.map FrS.ent)) g.length)], frB g, F, [(b1, .cells #[.string p.name, .int .i64 p.first, .int .i64 p.count, .bool p.general, .bool p.keep] 57)]]) (fun (x_ : Int × List FrS) => match x_ with | (n, g) => p.first ≤ n ∧ n ≤ p.first + p.count ∧ FsNew (pre ++ [cutP p (n - p.first)]) g ∧ ∀ j, p.first ≤ j → j < n → ∀ q ∈ pre, ¬ inP q j) (fun (x_ : Int × List FrS) => match x_ with | (n, g) => (p.first + p.count - n).toNat) (p.first, fs) ⟨by omega, by omega, by rw [Int.sub_self]; exact hcut, fun j h1 h2 => by omega⟩ (by kernel_rfl) rfl ?_
                rintro ⟨n, g⟩ ⟨hn0, hn1, hF, hA⟩
                refine sSeq (sSeq (sReg (lRunS 6 [(2, 7, 0), (4, 7, 0)] [(67, .int .i64 (IntKind.i64.wrap (p.first + p.count))), (66, .int .i64 p.count), (65, .pointer (some ⟨b1, 2, none⟩)), (64, .int .i64 p.first), (63, .pointer (some ⟨b1, 1, none⟩)), (62, .int .i64 n)] [b1, b1] (by kernel_rfl) (lOv 67 (iw (x := p.first + p.count) (by omega)) (by kernel_rfl) (lRunS 1 [] [(68, .bool (decide (n < (p.first + p.count))))] [] (by kernel_rfl) ?_)))))
                refine lEnd ?_
                refine sIfP (bpD (n < (p.first + p.count))) (by kernel_rfl) (fun h7 => ?_) (fun h7 => ?_)
                · refine sSkip (sSeq (sBlock (sSeq (sSeq (sReg ?_)))))
                  refine lRunS 5 [(3, 1, 0)] [(75, .int .i64 n), (74, .map (some B.fm)), (73, .pointer (some ⟨B.tb, 2, none⟩)), (72, .pointer (some ⟨B.tb, 0, none⟩)), (71, .pointer (some ⟨B.tb, 0, none⟩))] [B.tb] (by kernel_rfl) (lR (u := (lkM (g.map FrS.ent) n).getD (.pointer none)) (runLook (T := 61) (b := B.fm) (K := 3) (E := 67) (l := (g.map FrS.ent)) (clk := g.length) (by kernel_rfl) (keyInt (k := .i64) (by kernel_rfl)) (.pointer none) (by kernel_rfl) (4, 0) n (by kernel_rfl)) (by kernel_rfl) (by kernel_rfl) (by kernel_rfl) ?_)
                  rcases hg : getF g n with _ | f
                  · refine lOv (v := .pointer none) (v0 := (lkM (g.map FrS.ent) n).getD (.pointer none)) 76 (by rw [lk_fr, hg]; rfl) (by kernel_rfl) (lRunS 1 [] [(77, .bool false)] [] (by kernel_rfl) (lEnd (sIfF (by kernel_rfl) (sSkip (sReg ?_)))))
                    refine lRunN 8 [(3, 1, 0)] (fun b2 => [(85, .pointer (some ⟨b2, 0, none⟩)), (84, .agg #[.int .i64 0, .int .i64 (pre.length : Int), .pointer none]), (83, .int .i64 (pre.length : Int)), (82, .int .i64 n), (81, .map (some B.fm)), (80, .pointer (some ⟨B.tb, 2, none⟩)), (79, .pointer (some ⟨B.tb, 0, none⟩)), (78, .pointer (some ⟨B.tb, 0, none⟩))]) (fun b2 => []) (fun b2 => .cells #[.int .i64 0, .int .i64 (pre.length : Int), .pointer none] 70) (fun b2 => [B.tb]) (fun b2 => by kernel_rfl) (fun b2 => ?_)
                    refine lX (u := fun _ => undef) (runUpd (T := 61) (b := B.fm) (K := 3) (E := 67) (l := (g.map FrS.ent)) (clk := g.length) (by kernel_rfl) (keyInt (k := .i64) (by kernel_rfl)) 3 0 n (.pointer (some ⟨b2, 0, none⟩)) (by kernel_rfl)) (by kernel_rfl) (by kernel_rfl) (fun _ => by kernel_rfl) ?_
                    rintro ⟨⟩ -
                    refine lEnd (sEnd (sReg (lRunS 2 [] [(70, .int .i64 (IntKind.i64.wrap (n + 1))), (69, .int .i64 n)] [] (by kernel_rfl) (lOv 70 (iw (x := n + 1) (by omega)) (by kernel_rfl) (lRunS 1 [] [(9, .int .i64 (n + 1))] [] (by kernel_rfl) ?_)))))
                    refine lEnd ?_
                    refine sPick (its' := [[(B.tb, .cells #[.slice (some ⟨B.pb, 0, none⟩) B.pools.length B.pc, .map (some B.ix), .map (some B.fm)] 63)], [(B.pb, .cells (arr encPool B.pools B.pr) 57)], [(B.ix, .map (mkM Value.string (nameL (pre ++ [p]) 0)) ((pre ++ [p]).length))], [(B.fm, .map (mkM (Value.int .i64) (inM (g.map FrS.ent) n (.pointer (some ⟨b2, 0, none⟩)) g.length)) (bif (lkM (g.map FrS.ent) n).isSome then g.length else g.length + 1))], frB g, [(b2, .cells #[.int .i64 0, .int .i64 (pre.length : Int), .pointer none] 70)], F, [(b1, .cells #[.string p.name, .int .i64 p.first, .int .i64 p.count, .bool p.general, .bool p.keep] 57)]]) [0, 1, 2, 3, 4, 7, 5, 6] (by kernel_rfl) (by kernel_rfl) ?_
                    refine sRe (its' := [[(B.tb, .cells #[.slice (some ⟨B.pb, 0, none⟩) B.pools.length B.pc, .map (some B.ix), .map (some B.fm)] 63)], [(B.pb, .cells (arr encPool B.pools B.pr) 57)], [(B.ix, .map (mkM Value.string (nameL (pre ++ [p]) 0)) ((pre ++ [p]).length))], [(B.fm, .map (mkM (Value.int .i64) ((g ++ [newF n b2 g.length pre.length]).map FrS.ent)) ((g ++ [newF n b2 g.length pre.length]).length))], frB (g ++ [newF n b2 g.length pre.length]), F, [(b1, .cells #[.string p.name, .int .i64 p.first, .int .i64 p.count, .bool p.general, .bool p.keep] 57)]]) (by rw [ent_in (b := b2) (i := pre.length) hg, show (lkM (g.map FrS.ent) n).isSome = false by rw [lk_fr, hg]; rfl, frB_new, show (g ++ [newF n b2 g.length pre.length]).length = g.length + 1 by simp]; simp [updI, tabI]) ?_
                    exact sAgain (n + 1, (g ++ [newF n b2 g.length pre.length])) ⟨by omega, by omega, fsNew_step hn0 hF hg, fun j h1 h2 => (Int.lt_or_le j n).elim (hA j h1) fun h => (show n = j by omega) ▸ none_no hF hg⟩ (by first | omega | (simp only []; omega)) (by kernel_rfl) rfl
                  · refine lOv (v := .pointer (some ⟨f.b, 0, none⟩)) (v0 := (lkM (g.map FrS.ent) n).getD (.pointer none)) 76 (by rw [lk_fr, hg]; rfl) (by kernel_rfl) (lRunS 1 [] [(77, .bool true)] [] (by kernel_rfl) (lEnd (sIfT (by kernel_rfl) (sSeq (rRunS [] [(6, .int .i64 10)] [] (by kernel_rfl) ?_)))))
                    refine sRet ?_
                    have he : errP pre p = 10 := by unfold errP; rw [if_neg hs1, if_neg hs2, if_neg (by rw [hi]; simp), if_neg hr, if_pos (hits_of hn0 (by omega) hF hg)]
                    exact wRet (pre ++ [p], g) (0, 0) [] (.int .i64 10) [.tmp 6] rfl (by kernel_rfl) (by rw [he]) (fun h => by rw [he] at h; cases h) (fun _ h => h.pick [0, 1, 2, 3, 4, 5] (by kernel_rfl) (by kernel_rfl))
                · refine sExit (by kernel_rfl) (sSeq (rRunS [] [(6, .int .i64 0)] [] (by kernel_rfl) (sRet ?_)))
                  have hnh : pre.any (hits p) = false := hits_no hb (by omega) (fun j hj => hA j hj.1 (by have := hj.2; omega))
                  have he : errP pre p = 0 := by unfold errP; rw [if_neg hs1, if_neg hs2, if_neg (by rw [hi]; simp), if_neg hr, if_neg (by rw [hnh]; simp)]
                  have hF2 : FsNew (pre ++ [p]) g := by have := hF; rwa [show n - p.first = p.count by omega, cutP_full] at this
                  exact wRet (pre ++ [p], g) (0, 0) [] (.int .i64 0) [.tmp 6] rfl (by kernel_rfl) (by rw [he]) (fun _ => ⟨rfl, hF2⟩) (fun _ h => h.pick [0, 1, 2, 3, 4, 5] (by kernel_rfl) (by kernel_rfl))
  · refine qOv (v := .tuple #[.int .i64 (j : Int), .bool true]) (v0 := .tuple #[(lkM (nameL pre 0) p.name).getD (.int .i64 0), .bool ((lkM (nameL pre 0) p.name).isSome)]) 17 (by rw [lk_nameL, hi]; rfl) (by kernel_rfl) (qRun 5 [] [(8, .bool true), (7, .int .i64 (j : Int)), (19, .bool true), (18, .int .i64 (j : Int)), (10, .tuple #[.int .i64 (j : Int), .bool true])] [] (by kernel_rfl) (qEnd (sSeq (sBlock (sSeq ?_)))))
    refine rRunS [(1, 7, 0)] [(20, .bool (decide ((p.name.size : Int) > (64 : Int)))), (24, .bool (decide ((p.name.size : Int) > (64 : Int)))), (23, .int .i64 (p.name.size : Int)), (22, .string p.name), (21, .pointer (some ⟨b1, 0, none⟩))] [b1] (by kernel_rfl) ?_
    refine sIfP (bpD ((p.name.size : Int) > (64 : Int))) (by kernel_rfl) (fun h8 => ?_) (fun h8 => ?_)
    · have hs1 : p.name.size > 64 := by omega
      refine sSeq (rRunS [] [(6, .int .i64 21)] [] (by kernel_rfl) (sRet ?_))
      have he : errP pre p = 21 := by unfold errP; rw [if_pos hs1]
      exact wRet (pre, fs) (0, 0) [] (.int .i64 21) [.tmp 6] rfl (by kernel_rfl) (by rw [he]) (fun h => by rw [he] at h; cases h) (fun _ h => h.pick [0, 1, 2, 3, 4, 5] (by kernel_rfl) (by kernel_rfl))
    · have hs1 : ¬ p.name.size > 64 := by omega
      refine sSeq (rRunS [(1, 7, 0)] [(25, .bool (p.name.toList == (⟨#[]⟩ : ByteArray).toList)), (28, .bool (p.name.toList == (⟨#[]⟩ : ByteArray).toList)), (27, .string p.name), (26, .pointer (some ⟨b1, 0, none⟩))] [b1] (by kernel_rfl) ?_)
      refine sIfP (bpS p.name (⟨#[]⟩ : ByteArray)) (by kernel_rfl) (fun h9 => ?_) (fun h9 => ?_)
      · have hs2 : p.name.size = 0 := ba_empty.1 h9
        refine sSeq (rRunS [] [(6, .int .i64 9)] [] (by kernel_rfl) (sRet ?_))
        have he : errP pre p = 9 := by unfold errP; rw [if_neg hs1, if_pos hs2]
        exact wRet (pre, fs) (0, 0) [] (.int .i64 9) [.tmp 6] rfl (by kernel_rfl) (by rw [he]) (fun h => by rw [he] at h; cases h) (fun _ h => h.pick [0, 1, 2, 3, 4, 5] (by kernel_rfl) (by kernel_rfl))
      · have hs2 : ¬ p.name.size = 0 := fun q => h9 (ba_empty.2 q)
        refine sSeq (rRunS [] [(29, .bool true), (30, .bool true)] [] (by kernel_rfl) (sIfT (by kernel_rfl) (sSeq (rRunS [] [(6, .int .i64 38)] [] (by kernel_rfl) (sRet ?_)))))
        have he : errP pre p = 38 := by unfold errP; rw [if_neg hs1, if_neg hs2, if_pos (by rw [hi]; rfl)]
        exact wRet (pre, fs) (0, 0) [] (.int .i64 38) [.tmp 6] rfl (by kernel_rfl) (by rw [he]) (fun h => by rw [he] at h; cases h) (fun _ h => h.pick [0, 1, 2, 3, 4, 5] (by kernel_rfl) (by kernel_rfl))

end Go.Proofs.Ytinpojleegfadaa
