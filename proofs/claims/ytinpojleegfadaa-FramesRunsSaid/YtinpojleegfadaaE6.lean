/- The walks of Read, Write and Copy of the reference. -/
import Derived.Test.YtinpojleegfadaaProg
import Derived.Test.YtinpojleegfadaaGd
import Derived.Test.YtinpojleegfadaaGc
namespace Go.Proofs.Ytinpojleegfadaa
open Go Go.Sx Go.Sx.Fr
set_option maxRecDepth 100000
set_option linter.unusedSimpArgs false
set_option linter.unusedVariables false
theorem c_rRead (W : World) (base : List Blk) (R : RefS) (T : TabS) (fs : List FrS) (ht : TabOk T fs) (hpg : PgOk fs) (n off k : Int) :
    CF Try.prog W base 34 #[.pointer (some ⟨R.rt, 0, none⟩), .int .i64 n, .int .i64 off, .int .i64 k] (refI R T fs) (fun d : SD => .tuple #[.slice d.a (readL fs n off k).length d.cap, .int .i64 (readE fs n off k)])
      (fun d => refI R T fs ++ [SD.blk 5 encByte d (readL fs n off k)]) (fun d => d.ok 1 (readL fs n off k).length) := by
  intro F
  refine ctIntro Try.func34 rfl rfl (by kernel_rfl) ?_
  refine sSeq (rRunS [] [(9, .int .i64 0), (8, .slice none 0 0)] [] (by kernel_rfl) (sSeq (sSeq (sReg (lRunS 2 [] [(12, .int .i64 n), (11, .pointer (some ⟨R.rt, 0, none⟩))] [] (by kernel_rfl) ?_)))))
  refine lCallR [0, 1, 2, 3] [0, 1, 2, 3, 4] (c_rknown W base R T fs ht n true) (by kernel_rfl) (by kernel_rfl) (by kernel_rfl) (by kernel_rfl) (by kernel_rfl) ?_
  rcases findV_cases fs n false with ⟨hz, hv⟩ | ⟨hz, f, hg, h0, hv⟩
  · refine lRunS 1 [] [(10, .int .i64 (findE fs n false))] [] (by kernel_rfl) (lEnd (sSeq (sReg (lRunS 2 [] [(15, .bool (!(decide ((findE fs n false) = (0 : Int))))), (14, .int .i64 (findE fs n false))] [] (by kernel_rfl) (lOv (v := .bool true) (v0 := .bool (!(decide ((findE fs n false) = (0 : Int))))) 15 (ovT (bpN (bpD ((findE fs n false) = (0 : Int)))) hz) (by kernel_rfl) ?_)))))
    refine lEnd (sIfT (by kernel_rfl) (sSeq (rRunS [] [(9, .int .i64 (findE fs n false)), (8, .slice none 0 0), (16, .int .i64 (findE fs n false))] [] (by kernel_rfl) (sRet ?_))))
    have hE : readE fs n off k = findE fs n false := by unfold readE; rw [if_pos hz]
    have hL : (readL fs n off k) = [] := by unfold readL; rw [if_neg (by rw [hE]; exact hz)]
    refine wfRe (its' := [[(R.rt, .cells #[.slice (some ⟨R.pb, 0, none⟩) T.pools.length R.pc, .slice (some ⟨R.rb, 0, none⟩) 4096 4096, .slice (some ⟨R.yb, 0, none⟩) 4096 4096] 81)], [(R.pb, .cells (arr encPool T.pools R.pr) 47)], [(R.rb, .cells (arr encInt (refsL fs) []) 3)], [(R.yb, .cells (arr encPg (pagesL fs) []) 71)], F, SD.blk 5 encByte ⟨none, 0, []⟩ (readL fs n off k)]) (by rw [hL]; simp [updI, setBlk, refI, SD.blk]) ?_
    exact wRet ⟨none, 0, []⟩ (0, 0) [] (.tuple #[.slice none 0 0, .int .i64 (findE fs n false)]) [.tmp 8, .tmp 9] rfl (by kernel_rfl) (by rw [hE, hL]; rfl) (by rw [hL]; exact SD.ok_nil 1) (fun _ h => h.pick [0, 1, 2, 3, 5, 4] (by kernel_rfl) (by kernel_rfl))
  · refine lOv (v := .int .i64 0) (v0 := .int .i64 (findE fs n false)) 13 (congrArg (Value.int .i64) hz) (by kernel_rfl) ?_
    obtain ⟨fo, fn0, fn1⟩ := of_get ht hg
    have fP : (pagesL fs)[n.toNat]? = some (mkPg (pgOf f)) := (pagesL_get fs fn0 fn1).trans (by unfold pgN; rw [hg])
    have fM := mkPg_of (pgOf_len hpg hg)
    have hYl := flatP_len (pagesL fs)
    have hYc := pagesL_len fs
    refine lRunS 1 [] [(10, .int .i64 0)] [] (by kernel_rfl) (lEnd (sSeq (rRunS [] [(15, .bool false), (14, .int .i64 0)] [] (by kernel_rfl) (sIfF (by kernel_rfl) (sSkip ?_)))))
    refine sSeq (sSeq (sReg (lRunS 3 [] [(19, .bool (decide (off < (0 : Int)))), (18, .bool (decide (off < (0 : Int)))), (17, .int .i64 off)] [] (by kernel_rfl) ?_)))
    rcases Classical.em (off < (0 : Int)) with h1 | h1
    · refine lOv (v := .bool true) (v0 := .bool (decide (off < (0 : Int)))) 19 (ovT (bpD (off < (0 : Int))) h1) (by kernel_rfl) (lRunS 17 [] [(36, .bool true), (35, undef), (34, undef), (33, undef), (32, undef), (31, .bool true), (30, .bool true), (29, undef), (28, undef), (27, .bool true), (26, .bool true), (25, undef), (24, undef), (23, .bool true), (22, .bool true), (21, undef), (20, undef)] [] (by kernel_rfl) (lEnd (sIfT (by kernel_rfl) (sSeq (rRunS [] [(9, .int .i64 14), (8, .slice none 0 0)] [] (by kernel_rfl) ?_)))))
      refine sRet ?_
      have hE := read_bad (off := off) (k := k) hz (by unfold withinP; omega)
      have hL : (readL fs n off k) = [] := by unfold readL; rw [if_neg (by rw [hE]; decide)]
      refine wfRe (its' := [[(R.rt, .cells #[.slice (some ⟨R.pb, 0, none⟩) T.pools.length R.pc, .slice (some ⟨R.rb, 0, none⟩) 4096 4096, .slice (some ⟨R.yb, 0, none⟩) 4096 4096] 81)], [(R.pb, .cells (arr encPool T.pools R.pr) 47)], [(R.rb, .cells (arr encInt (refsL fs) []) 3)], [(R.yb, .cells (arr encPg (pagesL fs) []) 71)], F, SD.blk 5 encByte ⟨none, 0, []⟩ (readL fs n off k)]) (by rw [hL]; simp [updI, setBlk, refI, SD.blk]) ?_
      exact wRet ⟨none, 0, []⟩ (0, 0) [] (.tuple #[.slice none 0 0, .int .i64 14]) [.tmp 8, .tmp 9] rfl (by kernel_rfl) (by rw [hE, hL]; rfl) (by rw [hL]; exact SD.ok_nil 1) (fun _ h => h.pick [0, 1, 2, 3, 5, 4] (by kernel_rfl) (by kernel_rfl))
    · refine lOv (v := .bool false) (v0 := .bool (decide (off < (0 : Int)))) 19 (ovF (bpD (off < (0 : Int))) h1) (by kernel_rfl) (lRunS 4 [] [(23, .bool (decide (k < (0 : Int)))), (22, .bool (decide (k < (0 : Int)))), (21, .bool (decide (k < (0 : Int)))), (20, .int .i64 k)] [] (by kernel_rfl) ?_)
      rcases Classical.em (k < (0 : Int)) with h2 | h2
      · refine lOv (v := .bool true) (v0 := .bool (decide (k < (0 : Int)))) 23 (ovT (bpD (k < (0 : Int))) h2) (by kernel_rfl) (lRunS 13 [] [(36, .bool true), (35, undef), (34, undef), (33, undef), (32, undef), (31, .bool true), (30, .bool true), (29, undef), (28, undef), (27, .bool true), (26, .bool true), (25, undef), (24, undef)] [] (by kernel_rfl) (lEnd (sIfT (by kernel_rfl) (sSeq (rRunS [] [(9, .int .i64 14), (8, .slice none 0 0)] [] (by kernel_rfl) ?_)))))
        refine sRet ?_
        have hE := read_bad (off := off) (k := k) hz (by unfold withinP; omega)
        have hL : (readL fs n off k) = [] := by unfold readL; rw [if_neg (by rw [hE]; decide)]
        refine wfRe (its' := [[(R.rt, .cells #[.slice (some ⟨R.pb, 0, none⟩) T.pools.length R.pc, .slice (some ⟨R.rb, 0, none⟩) 4096 4096, .slice (some ⟨R.yb, 0, none⟩) 4096 4096] 81)], [(R.pb, .cells (arr encPool T.pools R.pr) 47)], [(R.rb, .cells (arr encInt (refsL fs) []) 3)], [(R.yb, .cells (arr encPg (pagesL fs) []) 71)], F, SD.blk 5 encByte ⟨none, 0, []⟩ (readL fs n off k)]) (by rw [hL]; simp [updI, setBlk, refI, SD.blk]) ?_
        exact wRet ⟨none, 0, []⟩ (0, 0) [] (.tuple #[.slice none 0 0, .int .i64 14]) [.tmp 8, .tmp 9] rfl (by kernel_rfl) (by rw [hE, hL]; rfl) (by rw [hL]; exact SD.ok_nil 1) (fun _ h => h.pick [0, 1, 2, 3, 5, 4] (by kernel_rfl) (by kernel_rfl))
      · refine lOv (v := .bool false) (v0 := .bool (decide (k < (0 : Int)))) 23 (ovF (bpD (k < (0 : Int))) h2) (by kernel_rfl) (lRunS 4 [] [(27, .bool (decide (off > (64 : Int)))), (26, .bool (decide (off > (64 : Int)))), (25, .bool (decide (off > (64 : Int)))), (24, .int .i64 off)] [] (by kernel_rfl) ?_)
        rcases Classical.em (off > (64 : Int)) with h3 | h3
        · refine lOv (v := .bool true) (v0 := .bool (decide (off > (64 : Int)))) 27 (ovT (bpD (off > (64 : Int))) h3) (by kernel_rfl) (lRunS 9 [] [(36, .bool true), (35, undef), (34, undef), (33, undef), (32, undef), (31, .bool true), (30, .bool true), (29, undef), (28, undef)] [] (by kernel_rfl) (lEnd (sIfT (by kernel_rfl) (sSeq (rRunS [] [(9, .int .i64 14), (8, .slice none 0 0)] [] (by kernel_rfl) ?_)))))
          refine sRet ?_
          have hE := read_bad (off := off) (k := k) hz (by unfold withinP; omega)
          have hL : (readL fs n off k) = [] := by unfold readL; rw [if_neg (by rw [hE]; decide)]
          refine wfRe (its' := [[(R.rt, .cells #[.slice (some ⟨R.pb, 0, none⟩) T.pools.length R.pc, .slice (some ⟨R.rb, 0, none⟩) 4096 4096, .slice (some ⟨R.yb, 0, none⟩) 4096 4096] 81)], [(R.pb, .cells (arr encPool T.pools R.pr) 47)], [(R.rb, .cells (arr encInt (refsL fs) []) 3)], [(R.yb, .cells (arr encPg (pagesL fs) []) 71)], F, SD.blk 5 encByte ⟨none, 0, []⟩ (readL fs n off k)]) (by rw [hL]; simp [updI, setBlk, refI, SD.blk]) ?_
          exact wRet ⟨none, 0, []⟩ (0, 0) [] (.tuple #[.slice none 0 0, .int .i64 14]) [.tmp 8, .tmp 9] rfl (by kernel_rfl) (by rw [hE, hL]; rfl) (by rw [hL]; exact SD.ok_nil 1) (fun _ h => h.pick [0, 1, 2, 3, 5, 4] (by kernel_rfl) (by kernel_rfl))
        · refine lOv (v := .bool false) (v0 := .bool (decide (off > (64 : Int)))) 27 (ovF (bpD (off > (64 : Int))) h3) (by kernel_rfl) (lRunS 4 [] [(31, .bool (decide (k > (64 : Int)))), (30, .bool (decide (k > (64 : Int)))), (29, .bool (decide (k > (64 : Int)))), (28, .int .i64 k)] [] (by kernel_rfl) ?_)
          rcases Classical.em (k > (64 : Int)) with h4 | h4
          · refine lOv (v := .bool true) (v0 := .bool (decide (k > (64 : Int)))) 31 (ovT (bpD (k > (64 : Int))) h4) (by kernel_rfl) (lRunS 5 [] [(36, .bool true), (35, undef), (34, undef), (33, undef), (32, undef)] [] (by kernel_rfl) (lEnd (sIfT (by kernel_rfl) (sSeq (rRunS [] [(9, .int .i64 14), (8, .slice none 0 0)] [] (by kernel_rfl) ?_)))))
            refine sRet ?_
            have hE := read_bad (off := off) (k := k) hz (by unfold withinP; omega)
            have hL : (readL fs n off k) = [] := by unfold readL; rw [if_neg (by rw [hE]; decide)]
            refine wfRe (its' := [[(R.rt, .cells #[.slice (some ⟨R.pb, 0, none⟩) T.pools.length R.pc, .slice (some ⟨R.rb, 0, none⟩) 4096 4096, .slice (some ⟨R.yb, 0, none⟩) 4096 4096] 81)], [(R.pb, .cells (arr encPool T.pools R.pr) 47)], [(R.rb, .cells (arr encInt (refsL fs) []) 3)], [(R.yb, .cells (arr encPg (pagesL fs) []) 71)], F, SD.blk 5 encByte ⟨none, 0, []⟩ (readL fs n off k)]) (by rw [hL]; simp [updI, setBlk, refI, SD.blk]) ?_
            exact wRet ⟨none, 0, []⟩ (0, 0) [] (.tuple #[.slice none 0 0, .int .i64 14]) [.tmp 8, .tmp 9] rfl (by kernel_rfl) (by rw [hE, hL]; rfl) (by rw [hL]; exact SD.ok_nil 1) (fun _ h => h.pick [0, 1, 2, 3, 5, 4] (by kernel_rfl) (by kernel_rfl))
          · refine lOv (v := .bool false) (v0 := .bool (decide (k > (64 : Int)))) 31 (ovF (bpD (k > (64 : Int))) h4) (by kernel_rfl) (lRunS 3 [] [(34, .int .i64 (IntKind.i64.wrap (off + k))), (33, .int .i64 k), (32, .int .i64 off)] [] (by kernel_rfl) (lOv 34 (iw (x := off + k) (by omega)) (by kernel_rfl) (lRunS 2 [] [(36, .bool (decide ((off + k) > (64 : Int)))), (35, .bool (decide ((off + k) > (64 : Int))))] [] (by kernel_rfl) (lEnd ?_))))
            refine sIfP (bpD ((off + k) > (64 : Int))) (by kernel_rfl) (fun h5 => ?_) (fun h5 => ?_)
            · refine sSeq (rRunS [] [(9, .int .i64 14), (8, .slice none 0 0)] [] (by kernel_rfl) (sRet ?_))
              have hE := read_bad (off := off) (k := k) hz (by unfold withinP; omega)
              have hL : (readL fs n off k) = [] := by unfold readL; rw [if_neg (by rw [hE]; decide)]
              refine wfRe (its' := [[(R.rt, .cells #[.slice (some ⟨R.pb, 0, none⟩) T.pools.length R.pc, .slice (some ⟨R.rb, 0, none⟩) 4096 4096, .slice (some ⟨R.yb, 0, none⟩) 4096 4096] 81)], [(R.pb, .cells (arr encPool T.pools R.pr) 47)], [(R.rb, .cells (arr encInt (refsL fs) []) 3)], [(R.yb, .cells (arr encPg (pagesL fs) []) 71)], F, SD.blk 5 encByte ⟨none, 0, []⟩ (readL fs n off k)]) (by rw [hL]; simp [updI, setBlk, refI, SD.blk]) ?_
              exact wRet ⟨none, 0, []⟩ (0, 0) [] (.tuple #[.slice none 0 0, .int .i64 14]) [.tmp 8, .tmp 9] rfl (by kernel_rfl) (by rw [hE, hL]; rfl) (by rw [hL]; exact SD.ok_nil 1) (fun _ h => h.pick [0, 1, 2, 3, 5, 4] (by kernel_rfl) (by kernel_rfl))
            · refine sSkip (sSeq ?_)
              have hw : withinP off k := by unfold withinP; omega
              have hw2 := hw
              unfold withinP at hw2
              refine sRe (its' := [[(R.rt, .cells #[.slice (some ⟨R.pb, 0, none⟩) T.pools.length R.pc, .slice (some ⟨R.rb, 0, none⟩) 4096 4096, .slice (some ⟨R.yb, 0, none⟩) 4096 4096] 81)], [(R.pb, .cells (arr encPool T.pools R.pr) 47)], [(R.rb, .cells (arr encInt (refsL fs) []) 3)], [(R.yb, .cells (((flatP (pagesL fs)).map Extern.Stop.cell).toArray) 71)], F]) (by rw [← arrPg]; rfl) ?_
              refine sReg ?_
              refine lRunN 6 [(4, 1, 0)] (fun b1 => [(42, .int .i64 n), (41, .slice (some ⟨R.yb, 0, none⟩) 4096 4096), (40, .pointer (some ⟨R.rt, 2, none⟩)), (39, .pointer (some ⟨R.rt, 0, none⟩)), (38, .pointer (some ⟨R.rt, 0, none⟩)), (37, .slice (some ⟨b1, 0, none⟩) 0 0)]) (fun b1 => []) (fun b1 => .cells #[] 5) (fun b1 => [R.rt]) (fun b1 => by kernel_rfl) (fun b1 => ?_)
              refine lOv (v := .int .i64 (n.toNat : Int)) (v0 := .int .i64 n) 42 (congrArg (Value.int .i64) (by omega)) (by kernel_rfl) (lR (u := .pointer (some ⟨R.yb, n.toNat * 64, none⟩)) (runIndex0 (T := 79) (E := 71) (n := 4096) (c := 4096) (b := R.yb) (k := 64) (ik := .i64) n.toNat (by kernel_rfl) (by kernel_rfl) (by omega)) (by kernel_rfl) (by kernel_rfl) (by kernel_rfl) (lRunS 1 [] [(44, .int .i64 off)] [] (by kernel_rfl) (lOv (v := .int .i64 (off.toNat : Int)) (v0 := .int .i64 off) 44 (congrArg (Value.int .i64) (by omega)) (by kernel_rfl) (lRunS 3 [] [(47, .int .i64 (IntKind.i64.wrap (off + k))), (46, .int .i64 k), (45, .int .i64 off)] [] (by kernel_rfl) (lOv (v := .int .i64 (((off + k).toNat : Nat) : Int)) (v0 := .int .i64 (IntKind.i64.wrap (off + k))) 47 (congrArg (Value.int .i64) (by rw [wrap_i64 (by omega)]; omega)) (by kernel_rfl) ?_)))))
              refine lR (u := .slice (some ⟨R.yb, (if 64 = off.toNat then n.toNat * 64 else n.toNat * 64 + off.toNat), none⟩) ((off + k).toNat - off.toNat) (64 - off.toNat)) (runSliceArr (T := 71) (E := 5) (n := 64) (b := R.yb) (o := n.toNat * 64) (ik := .i64) (ik2 := .i64) off.toNat ((off + k).toNat) (by kernel_rfl) (by kernel_rfl) (by omega) (by omega)) (by kernel_rfl) (by kernel_rfl) (by kernel_rfl) ?_
              refine lX (u := fun d' : SD => .slice d'.a (0 + ((off + k).toNat - off.toNat)) d'.cap) (runAppendS (t := 36) (ty := 36) (sa := (some ⟨R.yb, (if 64 = off.toNat then n.toNat * 64 else n.toNat * 64 + off.toNat), none⟩)) (c2 := (64 - off.toNat)) (m := ((off + k).toNat - off.toNat)) (k := 1) (e := 5) (by_ := 1) (z := [.int .u8 0]) (f := encByte) (fun _ => rfl) ⟨some ⟨b1, 0, none⟩, 0, []⟩ [] (((flatP (pagesL fs)).drop (n.toNat * 64 + off.toNat)).take ((off + k).toNat - off.toNat)) 0 5 (by kernel_rfl) (by kernel_rfl) rfl rfl (by kernel_rfl) rfl (SD.ok_lit b1 0) (srcL (f := encByte) (T' := 71) (fun _ => rfl) (flatP (pagesL fs)) 3 (by kernel_rfl) (if h64 : 64 = off.toNat then .inl (by omega) else .inr (by rw [if_neg h64]))) (fun _ _ _ hu => one_encByte hu) (by rw [List.length_take, List.length_drop]; omega) (by omega) (by omega)) (by kernel_rfl) (by kernel_rfl) (fun _ => by kernel_rfl) ?_
              rintro d2 okd2
              refine lRunS 2 [] [(9, .int .i64 0), (8, .slice d2.a (0 + ((off + k).toNat - off.toNat)) d2.cap)] [] (by kernel_rfl) (lEnd (sRet ?_))
              have hE := read_ok hz hw
              have hP : pgN fs n = pgOf f := by unfold pgN; rw [hg]
              have hL : ((flatP (pagesL fs)).drop (n.toNat * 64 + off.toNat)).take ((off + k).toNat - off.toNat) = (readL fs n off k) := by unfold readL; rw [if_pos hE, hP, flatP_take fP (by unfold withinP at hw; omega), fM, show (off + k).toNat - off.toNat = k.toNat by unfold withinP at hw; omega]
              have hLl : (readL fs n off k).length = (off + k).toNat - off.toNat := by rw [← hL, List.length_take, List.length_drop]; unfold withinP at hw; omega
              refine wfRe (its' := [[(R.rt, .cells #[.slice (some ⟨R.pb, 0, none⟩) T.pools.length R.pc, .slice (some ⟨R.rb, 0, none⟩) 4096 4096, .slice (some ⟨R.yb, 0, none⟩) 4096 4096] 81)], [(R.pb, .cells (arr encPool T.pools R.pr) 47)], [(R.rb, .cells (arr encInt (refsL fs) []) 3)], [(R.yb, .cells (arr encPg (pagesL fs) []) 71)], F, SD.blk 5 encByte d2 (readL fs n off k)]) (by rw [List.nil_append, hL, ← arrPg]; rfl) ?_
              exact wRet d2 (0, 0) [] (.tuple #[.slice d2.a (0 + ((off + k).toNat - off.toNat)) d2.cap, .int .i64 0]) [.tmp 8, .tmp 9] rfl (by kernel_rfl) (by rw [hE, hLl, Nat.zero_add]) (by rw [hLl]; simpa using okd2) (fun _ h => h.pick [0, 1, 2, 3, 5, 4] (by kernel_rfl) (by kernel_rfl))

theorem refsL_same {fs : List FrS} {n : Int} {g : FrS → FrS} (hg : ∀ f, (g f).n = f.n) (hd : ∀ f, (g f).refs = f.refs) : refsL (updF fs n g) = refsL fs := by
  unfold refsL
  refine List.map_congr_left (fun i _ => ?_)
  rw [rf_updF hg]
  split
  · rename_i e
    rw [e]
    unfold rf
    cases getF fs n with
    | none => rfl
    | some f => simp only [hd]
  · rfl

theorem c_rWrite (W : World) (base : List Blk) (R : RefS) (T : TabS) (fs : List FrS) (ht : TabOk T fs) (hpg : PgOk fs) (bb : Nat) (n off : Int) (da : Option Addr) (dcap : Nat) (data : List UInt8) (hB : BS W encByte da data) (hdn : data.length ≤ 4096) :
    CF Try.prog W base 36 #[.pointer (some ⟨R.rt, 0, none⟩), .int .i64 n, .int .i64 off, .slice da data.length dcap] (refI R T fs) (fun _ : Unit => .int .i64 (readE fs n off (data.length : Int)))
      (fun _ => refI R T (writeF bb fs n off data)) (fun _ => True) := by
  intro F
  refine ctIntro Try.func36 rfl rfl (by kernel_rfl) ?_
  refine sSeq (rRunS [] [(8, .int .i64 0)] [] (by kernel_rfl) (sSeq (sSeq (sReg (lRunS 2 [] [(13, .int .i64 n), (12, .pointer (some ⟨R.rt, 0, none⟩))] [] (by kernel_rfl) ?_)))))
  refine lCallR [0, 1, 2, 3] [0, 1, 2, 3, 4] (c_rknown W base R T fs ht n true) (by kernel_rfl) (by kernel_rfl) (by kernel_rfl) (by kernel_rfl) (by kernel_rfl) ?_
  rcases findV_cases fs n false with ⟨hz, hv⟩ | ⟨hz, f, hg, h0, hv⟩
  · refine lRunS 1 [] [(9, .int .i64 (findE fs n false))] [] (by kernel_rfl) (lEnd (sSeq (sReg (lRunS 2 [] [(16, .bool (!(decide ((findE fs n false) = (0 : Int))))), (15, .int .i64 (findE fs n false))] [] (by kernel_rfl) (lOv (v := .bool true) (v0 := .bool (!(decide ((findE fs n false) = (0 : Int))))) 16 (ovT (bpN (bpD ((findE fs n false) = (0 : Int)))) hz) (by kernel_rfl) ?_)))))
    refine lEnd (sIfT (by kernel_rfl) (sSeq (rRunS [] [(8, .int .i64 (findE fs n false)), (17, .int .i64 (findE fs n false))] [] (by kernel_rfl) (sRet ?_))))
    have hE : readE fs n off (data.length : Int) = findE fs n false := by unfold readE; rw [if_pos hz]
    have hF : (writeF bb fs n off data) = fs := by unfold writeF; rw [if_neg (by rw [hE]; exact hz)]
    refine wfRe (its' := [[(R.rt, .cells #[.slice (some ⟨R.pb, 0, none⟩) T.pools.length R.pc, .slice (some ⟨R.rb, 0, none⟩) 4096 4096, .slice (some ⟨R.yb, 0, none⟩) 4096 4096] 81)], [(R.pb, .cells (arr encPool T.pools R.pr) 47)], [(R.rb, .cells (arr encInt (refsL (writeF bb fs n off data)) []) 3)], [(R.yb, .cells (arr encPg (pagesL (writeF bb fs n off data)) []) 71)], F]) (by rw [hF]; rfl) ?_
    exact wRet () (0, 0) [] (.int .i64 (findE fs n false)) [.tmp 8] rfl (by kernel_rfl) (by rw [hE]) trivial (fun _ h => h)
  · refine lOv (v := .int .i64 0) (v0 := .int .i64 (findE fs n false)) 14 (congrArg (Value.int .i64) hz) (by kernel_rfl) ?_
    obtain ⟨fo, fn0, fn1⟩ := of_get ht hg
    have fP : (pagesL fs)[n.toNat]? = some (mkPg (pgOf f)) := (pagesL_get fs fn0 fn1).trans (by unfold pgN; rw [hg])
    have fM := mkPg_of (pgOf_len hpg hg)
    have hYl := flatP_len (pagesL fs)
    have hYc := pagesL_len fs
    refine lRunS 1 [] [(9, .int .i64 0)] [] (by kernel_rfl) (lEnd (sSeq (rRunS [] [(16, .bool false), (15, .int .i64 0)] [] (by kernel_rfl) (sIfF (by kernel_rfl) (sSkip ?_)))))
    refine sSeq (sSeq (sReg (lRunS 3 [] [(20, .bool (decide (off < (0 : Int)))), (19, .bool (decide (off < (0 : Int)))), (18, .int .i64 off)] [] (by kernel_rfl) ?_)))
    rcases Classical.em (off < (0 : Int)) with h1 | h1
    · refine lOv (v := .bool true) (v0 := .bool (decide (off < (0 : Int)))) 20 (ovT (bpD (off < (0 : Int))) h1) (by kernel_rfl) (lRunS 10 [] [(30, .bool true), (29, undef), (28, undef), (27, undef), (26, undef), (25, undef), (24, .bool true), (23, .bool true), (22, undef), (21, undef)] [] (by kernel_rfl) (lEnd (sIfT (by kernel_rfl) (sSeq (rRunS [] [(8, .int .i64 14)] [] (by kernel_rfl) ?_)))))
      refine sRet ?_
      have hE := read_bad (off := off) (k := (data.length : Int)) hz (by unfold withinP; omega)
      have hF : (writeF bb fs n off data) = fs := by unfold writeF; rw [if_neg (by rw [hE]; decide)]
      refine wfRe (its' := [[(R.rt, .cells #[.slice (some ⟨R.pb, 0, none⟩) T.pools.length R.pc, .slice (some ⟨R.rb, 0, none⟩) 4096 4096, .slice (some ⟨R.yb, 0, none⟩) 4096 4096] 81)], [(R.pb, .cells (arr encPool T.pools R.pr) 47)], [(R.rb, .cells (arr encInt (refsL (writeF bb fs n off data)) []) 3)], [(R.yb, .cells (arr encPg (pagesL (writeF bb fs n off data)) []) 71)], F]) (by rw [hF]; rfl) ?_
      exact wRet () (0, 0) [] (.int .i64 14) [.tmp 8] rfl (by kernel_rfl) (by rw [hE]) trivial (fun _ h => h)
    · refine lOv (v := .bool false) (v0 := .bool (decide (off < (0 : Int)))) 20 (ovF (bpD (off < (0 : Int))) h1) (by kernel_rfl) (lRunS 4 [] [(24, .bool (decide (off > (64 : Int)))), (23, .bool (decide (off > (64 : Int)))), (22, .bool (decide (off > (64 : Int)))), (21, .int .i64 off)] [] (by kernel_rfl) ?_)
      rcases Classical.em (off > (64 : Int)) with h2 | h2
      · refine lOv (v := .bool true) (v0 := .bool (decide (off > (64 : Int)))) 24 (ovT (bpD (off > (64 : Int))) h2) (by kernel_rfl) (lRunS 6 [] [(30, .bool true), (29, undef), (28, undef), (27, undef), (26, undef), (25, undef)] [] (by kernel_rfl) (lEnd (sIfT (by kernel_rfl) (sSeq (rRunS [] [(8, .int .i64 14)] [] (by kernel_rfl) ?_)))))
        refine sRet ?_
        have hE := read_bad (off := off) (k := (data.length : Int)) hz (by unfold withinP; omega)
        have hF : (writeF bb fs n off data) = fs := by unfold writeF; rw [if_neg (by rw [hE]; decide)]
        refine wfRe (its' := [[(R.rt, .cells #[.slice (some ⟨R.pb, 0, none⟩) T.pools.length R.pc, .slice (some ⟨R.rb, 0, none⟩) 4096 4096, .slice (some ⟨R.yb, 0, none⟩) 4096 4096] 81)], [(R.pb, .cells (arr encPool T.pools R.pr) 47)], [(R.rb, .cells (arr encInt (refsL (writeF bb fs n off data)) []) 3)], [(R.yb, .cells (arr encPg (pagesL (writeF bb fs n off data)) []) 71)], F]) (by rw [hF]; rfl) ?_
        exact wRet () (0, 0) [] (.int .i64 14) [.tmp 8] rfl (by kernel_rfl) (by rw [hE]) trivial (fun _ h => h)
      · refine lOv (v := .bool false) (v0 := .bool (decide (off > (64 : Int)))) 24 (ovF (bpD (off > (64 : Int))) h2) (by kernel_rfl) (lRunS 4 [] [(28, .int .i64 (IntKind.i64.wrap (off + (data.length : Int)))), (27, .int .i64 (data.length : Int)), (26, .slice da data.length dcap), (25, .int .i64 off)] [] (by kernel_rfl) (lOv 28 (iw (x := off + (data.length : Int)) (by omega)) (by kernel_rfl) (lRunS 2 [] [(30, .bool (decide ((off + (data.length : Int)) > (64 : Int)))), (29, .bool (decide ((off + (data.length : Int)) > (64 : Int))))] [] (by kernel_rfl) (lEnd ?_))))
        refine sIfP (bpD ((off + (data.length : Int)) > (64 : Int))) (by kernel_rfl) (fun h3 => ?_) (fun h3 => ?_)
        · refine sSeq (rRunS [] [(8, .int .i64 14)] [] (by kernel_rfl) (sRet ?_))
          have hE := read_bad (off := off) (k := (data.length : Int)) hz (by unfold withinP; omega)
          have hF : (writeF bb fs n off data) = fs := by unfold writeF; rw [if_neg (by rw [hE]; decide)]
          refine wfRe (its' := [[(R.rt, .cells #[.slice (some ⟨R.pb, 0, none⟩) T.pools.length R.pc, .slice (some ⟨R.rb, 0, none⟩) 4096 4096, .slice (some ⟨R.yb, 0, none⟩) 4096 4096] 81)], [(R.pb, .cells (arr encPool T.pools R.pr) 47)], [(R.rb, .cells (arr encInt (refsL (writeF bb fs n off data)) []) 3)], [(R.yb, .cells (arr encPg (pagesL (writeF bb fs n off data)) []) 71)], F]) (by rw [hF]; rfl) ?_
          exact wRet () (0, 0) [] (.int .i64 14) [.tmp 8] rfl (by kernel_rfl) (by rw [hE]) trivial (fun _ h => h)
        · refine sSkip (sSeq (sSeq ?_))
          have hw : withinP off (data.length : Int) := by unfold withinP; omega
          have hw2 := hw
          unfold withinP at hw2
          have hE := read_ok hz hw
          refine sRe (its' := [[(R.rt, .cells #[.slice (some ⟨R.pb, 0, none⟩) T.pools.length R.pc, .slice (some ⟨R.rb, 0, none⟩) 4096 4096, .slice (some ⟨R.yb, 0, none⟩) 4096 4096] 81)], [(R.pb, .cells (arr encPool T.pools R.pr) 47)], [(R.rb, .cells (arr encInt (refsL fs) []) 3)], [(R.yb, .cells (arr encByte (wr (flatP (pagesL fs)) (n.toNat * 64 + off.toNat) (data.take 0)) []) 71)], F]) (by rw [List.take_zero, wr_nil, ← arrBt, ← arrPg]; rfl) ?_
          refine rRunS [] [(33, .int .i64 0), (32, .int .i64 (data.length : Int)), (31, .slice da data.length dcap)] [] (by kernel_rfl) (sBlock ?_)
          refine sLoop (fun (i : Nat) => [(33, .int .i64 (i : Int)), (32, .int .i64 (data.length : Int)), (31, .slice da data.length dcap), (2, .int .i64 off), (1, .int .i64 n), (0, .pointer (some ⟨R.rt, 0, none⟩))]) (fun (i : Nat) => [[(R.rt, .cells #[.slice (some ⟨R.pb, 0, none⟩) T.pools.length R.pc, .slice (some ⟨R.rb, 0, none⟩) 4096 4096, .slice (some ⟨R.yb, 0, none⟩) 4096 4096] 81)], [(R.pb, .cells (arr encPool T.pools R.pr) 47)], [(R.rb, .cells (arr encInt (refsL fs) []) 3)], [(R.yb, .cells (arr encByte (wr (flatP (pagesL fs)) (n.toNat * 64 + off.toNat) (data.take i)) []) 71)], F]) (fun (i : Nat) => i ≤ data.length) (fun (i : Nat) => data.length - i) 0 (by omega) (by kernel_rfl) rfl ?_
          rintro i hi
          have hwl : (wr (flatP (pagesL fs)) (n.toNat * 64 + off.toNat) (data.take i)).length = (flatP (pagesL fs)).length := wr_len (by rw [List.length_take]; omega)
          refine sSeq (rRunS [] [(34, .bool (decide ((i : Int) < (data.length : Int))))] [] (by kernel_rfl) (sSeq ?_))
          refine sIfP (bpD ((i : Int) < (data.length : Int))) (by kernel_rfl) (fun h4 => ?_) (fun h4 => ?_)
          · refine sSkip (sSeq (sBlock (sSeq (sReg (lRunS 1 [] [(35, .int .i64 (i : Int))] [] (by kernel_rfl) ?_)))))
            obtain ⟨b1, ob1, hab1, hcb1⟩ := BS.some hB (by omega)
            refine lR (u := .pointer (some ⟨b1, ob1 + i * 1, none⟩)) (runIndexD (T := 36) (E := 5) (n := data.length) (c := dcap) (b := b1) (o := ob1) (k := 1) (ik := .i64) i hab1 (by kernel_rfl) (by kernel_rfl) (by omega)) (by kernel_rfl) (by kernel_rfl) (by kernel_rfl) ?_
            obtain ⟨x2, hx2⟩ : ∃ x, data[i]? = some x := ⟨_, List.getElem?_eq_getElem (by (try simp only [List.length_set, List.length_append, List.length_replicate]); omega)⟩
            refine lR (u := Extern.Stop.cell x2) (runLoadBE1 (f := encByte) (T := 5) (v := Extern.Stop.cell x2) (fun _ => rfl) hcb1 hx2 rfl (by kernel_rfl)) (by kernel_rfl) (by kernel_rfl) (by kernel_rfl) (lRunS 2 [] [(11, Extern.Stop.cell x2), (10, .int .i64 (i : Int))] [] (by kernel_rfl) (lEnd (sReg (lRunS 5 [(3, 1, 0)] [(42, .int .i64 n), (41, .slice (some ⟨R.yb, 0, none⟩) 4096 4096), (40, .pointer (some ⟨R.rt, 2, none⟩)), (39, .pointer (some ⟨R.rt, 0, none⟩)), (38, .pointer (some ⟨R.rt, 0, none⟩))] [R.rt] (by kernel_rfl) (lOv (v := .int .i64 (n.toNat : Int)) (v0 := .int .i64 n) 42 (congrArg (Value.int .i64) (by omega)) (by kernel_rfl) ?_)))))
            refine lRunS 3 [] [(45, .int .i64 (IntKind.i64.wrap (off + (i : Int)))), (44, .int .i64 (i : Int)), (43, .int .i64 off)] [] (by kernel_rfl) (lOv (v := .int .i64 (((off.toNat + i) : Nat) : Int)) (v0 := .int .i64 (IntKind.i64.wrap (off + (i : Int)))) 45 (congrArg (Value.int .i64) (by rw [wrap_i64 (by omega)]; omega)) (by kernel_rfl) (lRunS 1 [] [(46, Extern.Stop.cell x2)] [] (by kernel_rfl) (lR (u := .pointer (some ⟨R.yb, n.toNat * 64, none⟩)) (runIndex0 (T := 79) (E := 71) (n := 4096) (c := 4096) (b := R.yb) (k := 64) (ik := .i64) n.toNat (by kernel_rfl) (by kernel_rfl) (by omega)) (by kernel_rfl) (by kernel_rfl) (by kernel_rfl) (lR (u := .pointer (some ⟨R.yb, n.toNat * 64 + (off.toNat + i) * 1, none⟩)) (runIndexA (T := 71) (E := 5) (n := 64) (b := R.yb) (o := n.toNat * 64) (k := 1) (ik := .i64) (off.toNat + i) (by kernel_rfl) (by kernel_rfl) (by omega)) (by kernel_rfl) (by kernel_rfl) (by kernel_rfl) (lOv (v := .pointer (some ⟨R.yb, (n.toNat * 64 + off.toNat + i) * 1, none⟩)) (v0 := .pointer (some ⟨R.yb, n.toNat * 64 + (off.toNat + i) * 1, none⟩)) 48 (congrArg (fun z => Value.pointer (some ⟨R.yb, z, none⟩)) (by omega)) (by kernel_rfl) ?_)))))
            obtain ⟨x3, hx3⟩ : ∃ x, (wr (flatP (pagesL fs)) (n.toNat * 64 + off.toNat) (data.take i))[(n.toNat * 64 + off.toNat + i)]? = some x := ⟨_, List.getElem?_eq_getElem (by (try simp only [List.length_set, List.length_append, List.length_replicate]); omega)⟩
            refine lX (u := fun _ => undef) (runStoreE1 (b := R.yb) (f := encByte) (T := 5) (T' := 71) (rest := []) (v := Extern.Stop.cell x2) (i := 3) (j := 0) (fun _ => rfl) x2 (by kernel_rfl) hx3 rfl rfl (by kernel_rfl)) (by kernel_rfl) (by kernel_rfl) (fun _ => by kernel_rfl) ?_
            rintro ⟨⟩ -
            refine lEnd (sEnd (sReg (lRunS 1 [] [(49, .int .i64 (IntKind.i64.wrap ((i : Int) + 1)))] [] (by kernel_rfl) (lOv 49 (iw (x := (i : Int) + 1) (by omega)) (by kernel_rfl) (lRunS 1 [] [(33, .int .i64 ((i : Int) + 1))] [] (by kernel_rfl) ?_)))))
            refine lEnd ?_
            refine sRe (its' := [[(R.rt, .cells #[.slice (some ⟨R.pb, 0, none⟩) T.pools.length R.pc, .slice (some ⟨R.rb, 0, none⟩) 4096 4096, .slice (some ⟨R.yb, 0, none⟩) 4096 4096] 81)], [(R.pb, .cells (arr encPool T.pools R.pr) 47)], [(R.rb, .cells (arr encInt (refsL fs) []) 3)], [(R.yb, .cells (arr encByte (wr (flatP (pagesL fs)) (n.toNat * 64 + off.toNat) (data.take (i + 1))) []) 71)], F]) (by rw [wr_set (by omega) hx2]; rfl) ?_
            exact sAgain (i + 1) (by omega) (by first | omega | (simp only []; omega)) (by kernel_rfl) rfl
          · refine sExit (by kernel_rfl) (sSeq (rRunS [] [(8, .int .i64 0)] [] (by kernel_rfl) (sRet ?_)))
            have hR : refsL (writeF bb fs n off data) = refsL fs := by unfold writeF; rw [if_pos hE]; exact refsL_same (fun _ => rfl) (fun _ => rfl)
            have hY : pagesL (writeF bb fs n off data) = (pagesL fs).set n.toNat ⟨wr (mkPg (pgOf f)).l off.toNat data, (wr_len (by rw [(mkPg (pgOf f)).h]; omega)).trans (mkPg (pgOf f)).h⟩ := by unfold writeF; rw [if_pos hE, pagesL_upd (g := fun f => setPg (writeB bb f) (wr (pgOf f) off.toNat data) f) (fun _ => rfl) hg fn0 fn1]; congr 1; exact (mkPg_of ((wr_len (by rw [pgOf_len hpg hg]; omega)).trans (pgOf_len hpg hg))).trans (by simp only [fM])
            have hW : wr (flatP (pagesL fs)) (n.toNat * 64 + off.toNat) (data.take i) = flatP (pagesL (writeF bb fs n off data)) := by rw [List.take_of_length_le (by omega), hY]; exact flatP_wr fP (by omega)
            refine wfRe (its' := [[(R.rt, .cells #[.slice (some ⟨R.pb, 0, none⟩) T.pools.length R.pc, .slice (some ⟨R.rb, 0, none⟩) 4096 4096, .slice (some ⟨R.yb, 0, none⟩) 4096 4096] 81)], [(R.pb, .cells (arr encPool T.pools R.pr) 47)], [(R.rb, .cells (arr encInt (refsL (writeF bb fs n off data)) []) 3)], [(R.yb, .cells (arr encPg (pagesL (writeF bb fs n off data)) []) 71)], F]) (by rw [hW, ← arrBt, ← arrPg, hR]) ?_
            exact wRet () (0, 0) [] (.int .i64 0) [.tmp 8] rfl (by kernel_rfl) (by rw [hE]) trivial (fun _ h => h)

theorem c_rCopy (W : World) (base : List Blk) (R : RefS) (T : TabS) (fs : List FrS) (ht : TabOk T fs) (hpg : PgOk fs) (bb : Nat) (m n : Int) :
    CF Try.prog W base 38 #[.pointer (some ⟨R.rt, 0, none⟩), .int .i64 m, .int .i64 n] (refI R T fs) (fun _ : Unit => .int .i64 (copyE fs m n))
      (fun _ => refI R T (copyF bb fs m n)) (fun _ => True) := by
  intro F
  refine ctIntro Try.func38 rfl rfl (by kernel_rfl) ?_
  refine sSeq (rRunS [] [(6, .int .i64 0)] [] (by kernel_rfl) (sSeq (sSeq (sReg (lRunS 2 [] [(10, .int .i64 m), (9, .pointer (some ⟨R.rt, 0, none⟩))] [] (by kernel_rfl) ?_)))))
  refine lCallR [0, 1, 2, 3] [0, 1, 2, 3, 4] (c_rknown W base R T fs ht m true) (by kernel_rfl) (by kernel_rfl) (by kernel_rfl) (by kernel_rfl) (by kernel_rfl) ?_
  rcases findV_cases fs m false with ⟨hz, hv⟩ | ⟨hz, f, hg, h0, hv⟩
  · refine lRunS 1 [] [(7, .int .i64 (findE fs m false))] [] (by kernel_rfl) (lEnd (sSeq (sReg (lRunS 2 [] [(13, .bool (!(decide ((findE fs m false) = (0 : Int))))), (12, .int .i64 (findE fs m false))] [] (by kernel_rfl) (lOv (v := .bool true) (v0 := .bool (!(decide ((findE fs m false) = (0 : Int))))) 13 (ovT (bpN (bpD ((findE fs m false) = (0 : Int)))) hz) (by kernel_rfl) ?_)))))
    refine lEnd (sIfT (by kernel_rfl) (sSeq (rRunS [] [(6, .int .i64 (findE fs m false)), (14, .int .i64 (findE fs m false))] [] (by kernel_rfl) (sRet ?_))))
    have hE : copyE fs m n = findE fs m false := by unfold copyE; rw [if_pos hz]
    have hF : (copyF bb fs m n) = fs := by unfold copyF; rw [if_neg (by rw [hE]; exact hz)]
    refine wfRe (its' := [[(R.rt, .cells #[.slice (some ⟨R.pb, 0, none⟩) T.pools.length R.pc, .slice (some ⟨R.rb, 0, none⟩) 4096 4096, .slice (some ⟨R.yb, 0, none⟩) 4096 4096] 81)], [(R.pb, .cells (arr encPool T.pools R.pr) 47)], [(R.rb, .cells (arr encInt (refsL (copyF bb fs m n)) []) 3)], [(R.yb, .cells (arr encPg (pagesL (copyF bb fs m n)) []) 71)], F]) (by rw [hF]; rfl) ?_
    exact wRet () (0, 0) [] (.int .i64 (findE fs m false)) [.tmp 6] rfl (by kernel_rfl) (by rw [hE]) trivial (fun _ h => h)
  · refine lOv (v := .int .i64 0) (v0 := .int .i64 (findE fs m false)) 11 (congrArg (Value.int .i64) hz) (by kernel_rfl) ?_
    obtain ⟨fo, fn0, fn1⟩ := of_get ht hg
    have fP : (pagesL fs)[m.toNat]? = some (mkPg (pgOf f)) := (pagesL_get fs fn0 fn1).trans (by unfold pgN; rw [hg])
    have fM := mkPg_of (pgOf_len hpg hg)
    have hYl := flatP_len (pagesL fs)
    have hYc := pagesL_len fs
    refine lRunS 1 [] [(7, .int .i64 0)] [] (by kernel_rfl) (lEnd (sSeq (rRunS [] [(13, .bool false), (12, .int .i64 0)] [] (by kernel_rfl) (sIfF (by kernel_rfl) (sSkip ?_)))))
    refine sSeq (sSeq (sReg (lRunS 2 [] [(16, .int .i64 n), (15, .pointer (some ⟨R.rt, 0, none⟩))] [] (by kernel_rfl) ?_)))
    refine lCallR [0, 1, 2, 3] [0, 1, 2, 3, 4] (c_rknown W base R T fs ht n true) (by kernel_rfl) (by kernel_rfl) (by kernel_rfl) (by kernel_rfl) (by kernel_rfl) ?_
    rcases findV_cases fs n false with ⟨hz2, hv⟩ | ⟨hz2, g, hg2, h0, hv⟩
    · refine lRunS 1 [] [(8, .int .i64 (findE fs n false))] [] (by kernel_rfl) (lEnd (sSeq (sReg (lRunS 2 [] [(19, .bool (!(decide ((findE fs n false) = (0 : Int))))), (18, .int .i64 (findE fs n false))] [] (by kernel_rfl) (lOv (v := .bool true) (v0 := .bool (!(decide ((findE fs n false) = (0 : Int))))) 19 (ovT (bpN (bpD ((findE fs n false) = (0 : Int)))) hz2) (by kernel_rfl) ?_)))))
      refine lEnd (sIfT (by kernel_rfl) (sSeq (rRunS [] [(6, .int .i64 (findE fs n false)), (20, .int .i64 (findE fs n false))] [] (by kernel_rfl) (sRet ?_))))
      have hE : copyE fs m n = findE fs n false := by unfold copyE; rw [if_neg (by simpa using hz)]
      have hF : (copyF bb fs m n) = fs := by unfold copyF; rw [if_neg (by rw [hE]; exact hz2)]
      refine wfRe (its' := [[(R.rt, .cells #[.slice (some ⟨R.pb, 0, none⟩) T.pools.length R.pc, .slice (some ⟨R.rb, 0, none⟩) 4096 4096, .slice (some ⟨R.yb, 0, none⟩) 4096 4096] 81)], [(R.pb, .cells (arr encPool T.pools R.pr) 47)], [(R.rb, .cells (arr encInt (refsL (copyF bb fs m n)) []) 3)], [(R.yb, .cells (arr encPg (pagesL (copyF bb fs m n)) []) 71)], F]) (by rw [hF]; rfl) ?_
      exact wRet () (0, 0) [] (.int .i64 (findE fs n false)) [.tmp 6] rfl (by kernel_rfl) (by rw [hE]) trivial (fun _ h => h)
    · refine lOv (v := .int .i64 0) (v0 := .int .i64 (findE fs n false)) 17 (congrArg (Value.int .i64) hz2) (by kernel_rfl) ?_
      obtain ⟨go, gn0, gn1⟩ := of_get ht hg2
      have gP : (pagesL fs)[n.toNat]? = some (mkPg (pgOf g)) := (pagesL_get fs gn0 gn1).trans (by unfold pgN; rw [hg2])
      have gM := mkPg_of (pgOf_len hpg hg2)
      have hYl := flatP_len (pagesL fs)
      have hYc := pagesL_len fs
      refine lRunS 1 [] [(8, .int .i64 0)] [] (by kernel_rfl) (lEnd (sSeq (rRunS [] [(19, .bool false), (18, .int .i64 0)] [] (by kernel_rfl) (sIfF (by kernel_rfl) (sSkip ?_)))))
      refine sSeq ?_
      refine rHeld (by kernel_rfl) (by kernel_rfl) [[(R.rt, .cells #[.slice (some ⟨R.pb, 0, none⟩) T.pools.length R.pc, .slice (some ⟨R.rb, 0, none⟩) 4096 4096, .slice (some ⟨R.yb, 0, none⟩) 4096 4096] 81)], [(R.pb, .cells (arr encPool T.pools R.pr) 47)], [(R.rb, .cells (arr encInt (refsL fs) []) 3)], F] ?_
      refine hTakes [0, 1, 2, 3, 4] [(3, 1, 0)] [0, 1, 2, 4] [(25, .int .i64 n), (24, .slice (some ⟨R.yb, 0, none⟩) 4096 4096), (23, .pointer (some ⟨R.rt, 2, none⟩)), (22, .pointer (some ⟨R.rt, 0, none⟩)), (21, .pointer (some ⟨R.rt, 0, none⟩))] [R.rt] (by kernel_rfl) (by kernel_rfl) (by kernel_rfl) (by kernel_rfl) (hOv (v := .int .i64 (n.toNat : Int)) (v0 := .int .i64 n) 25 (congrArg (Value.int .i64) (by omega)) (by kernel_rfl) (hTakes [5, 6, 7, 8, 9] [(8, 1, 0)] [0, 1, 2, 4] [(30, .int .i64 m), (29, .slice (some ⟨R.yb, 0, none⟩) 4096 4096), (28, .pointer (some ⟨R.rt, 2, none⟩)), (27, .pointer (some ⟨R.rt, 0, none⟩)), (26, .pointer (some ⟨R.rt, 0, none⟩))] [R.rt] (by kernel_rfl) (by kernel_rfl) (by kernel_rfl) (by kernel_rfl) (hOv (v := .int .i64 (m.toNat : Int)) (v0 := .int .i64 m) 30 (congrArg (Value.int .i64) (by omega)) (by kernel_rfl) (hR (u := .pointer (some ⟨R.yb, m.toNat * 64, none⟩)) 10 [0, 1, 2, 4] (runIndex0 (T := 79) (E := 71) (n := 4096) (c := 4096) (b := R.yb) (k := 64) (ik := .i64) m.toNat (by kernel_rfl) (by kernel_rfl) (by omega)) (by kernel_rfl) (by kernel_rfl) (by kernel_rfl) (by kernel_rfl) (by kernel_rfl) (by kernel_rfl) (by kernel_rfl) rfl ?_))))
      refine hOS 11 [0, 1, 2, 4] (OS.x (u := fun _ => .agg ((encPg (mkPg (pgOf f))).toArray)) (by kernel_rfl) (by kernel_rfl) (RunR.x (runLoadS (f := encPg) (T := 71) (b := R.yb) (k := 64) (T' := 71) (rest := []) encPg_len (4, 0) (by kernel_rfl) fP (by kernel_rfl) (by kernel_rfl))) (fun _ => by kernel_rfl)) (by kernel_rfl) (by kernel_rfl) (by kernel_rfl) (fun _ => by kernel_rfl) ?_
      rintro ⟨⟩ -
      refine hR (u := .pointer (some ⟨R.yb, n.toNat * 64, none⟩)) 12 [0, 1, 2, 4] (runIndex0 (T := 79) (E := 71) (n := 4096) (c := 4096) (b := R.yb) (k := 64) (ik := .i64) n.toNat (by kernel_rfl) (by kernel_rfl) (by omega)) (by kernel_rfl) (by kernel_rfl) (by kernel_rfl) (by kernel_rfl) (by kernel_rfl) (by kernel_rfl) (by kernel_rfl) rfl ?_
      refine hOS 13 [0, 1, 2, 4] (OS.x (u := fun _ => undef) (by kernel_rfl) (by kernel_rfl) (runStoreS (b := R.yb) (f := encPg) (k := 64) (T := 71) (T' := 71) (rest := []) (i := 3) (j := 0) (v := ((encPg (mkPg (pgOf f))).toArray)) encPg_len (mkPg (pgOf f)) (by kernel_rfl) gP rfl (fun u hu => one_encPg hu) (by kernel_rfl)) (fun _ => by kernel_rfl)) (by kernel_rfl) (by kernel_rfl) (by kernel_rfl) (fun _ => by kernel_rfl) ?_
      rintro ⟨⟩ -
      refine hEnd (by kernel_rfl) (sSeq (rRunS [] [(6, .int .i64 0)] [] (by kernel_rfl) (sRet ?_)))
      have hE : copyE fs m n = 0 := by unfold copyE; rw [if_neg (by simpa using hz), hz2]
      have hP : pgN fs m = pgOf f := by unfold pgN; rw [hg]
      have hR : refsL (copyF bb fs m n) = refsL fs := by unfold copyF; rw [if_pos hE]; exact refsL_same (fun _ => rfl) (fun _ => rfl)
      have hY : pagesL (copyF bb fs m n) = (pagesL fs).set n.toNat (mkPg (pgOf f)) := by unfold copyF; rw [if_pos hE, pagesL_upd (g := setPg bb (pgN fs m)) (fun _ => rfl) hg2 gn0 gn1, hP]; rfl
      refine wfRe (its' := [[(R.rt, .cells #[.slice (some ⟨R.pb, 0, none⟩) T.pools.length R.pc, .slice (some ⟨R.rb, 0, none⟩) 4096 4096, .slice (some ⟨R.yb, 0, none⟩) 4096 4096] 81)], [(R.pb, .cells (arr encPool T.pools R.pr) 47)], [(R.rb, .cells (arr encInt (refsL (copyF bb fs m n)) []) 3)], [(R.yb, .cells (arr encPg (pagesL (copyF bb fs m n)) []) 71)], F]) (by rw [hR, hY]; rfl) ?_
      exact wRet () (0, 0) [] (.int .i64 0) [.tmp 6] rfl (by kernel_rfl) (by rw [hE]) trivial (fun _ h => h)

end Go.Proofs.Ytinpojleegfadaa
