/- The walks of the reference's small methods, of Journal and of Equal. -/
import Derived.Test.YtljfjiaiachbfaaDoorProg
import Derived.Test.YtljfjiaiachbfaaDoorM2
import Derived.Test.YtljfjiaiachbfaaDoorA3
namespace Go.Proofs.YtljfjiaiachbfaaDoor
open Go.Sx Go.Sx.Gd
set_option maxRecDepth 100000
set_option linter.unusedSimpArgs false
set_option linter.unusedVariables false
theorem c_rvalue (W : World) (base : List Blk) (rb : Nat) (da dc dj : SD) (s : Srv) (hs : SrvOk s) (ha : da.ok 2 s.acc.length) (hc : dc.ok 5 s.cli.length) (hj : dj.ok 1 s.jr.length) (k : ByteArray) : CP Tryd.prog W base 13 #[.pointer (some ⟨rb, 0, none⟩), .string k] [[(rb, .cells #[.slice da.a s.acc.length da.cap, .slice dc.a s.cli.length dc.cap, .slice dj.a s.jr.length dj.cap, .int .i64 ((s.cnt : Nat) : Int)] 86)], SD.blk 94 encAcc da s.acc, SD.blk 92 encCli dc s.cli, SD.blk 5 encByte dj s.jr] (.int .i64 (accV s.acc k)) := by
  intro F
  refine ctIntro Tryd.func13 rfl rfl (by kernel_rfl) ?_
  refine sSeq (rRunS [] [(4, .int .i64 0)] [] (by kernel_rfl) (sSeq (sSeq (rRunS [] [(5, .int .i64 0)] [] (by kernel_rfl) (sBlock ?_)))))
  have hb1 := hs.nacc
  have hb2 := hs.ncli
  have hb3 := hs.cnt
  refine sLoop (fun (i : Nat) => [(5, .int .i64 (i : Int)), (1, .string k), (0, .pointer (some ⟨rb, 0, none⟩))]) (fun (i : Nat) => [[(rb, .cells #[.slice da.a s.acc.length da.cap, .slice dc.a s.cli.length dc.cap, .slice dj.a s.jr.length dj.cap, .int .i64 ((s.cnt : Nat) : Int)] 86)], SD.blk 94 encAcc da s.acc, SD.blk 92 encCli dc s.cli, SD.blk 5 encByte dj s.jr, F]) (fun (i : Nat) => i ≤ s.acc.length ∧ ∀ y ∈ s.acc.take i, ¬ y.1 = k) (fun (i : Nat) => s.acc.length - i) 0 ⟨by omega, by simp⟩ (by kernel_rfl) rfl ?_
  rintro i ⟨hi, hI⟩
  refine sSeq (sSeq (rRunS [(4, 1, 0)] [(12, .bool (decide ((i : Int) < (s.acc.length : Int)))), (11, .int .i64 (s.acc.length : Int)), (10, .slice da.a s.acc.length da.cap), (9, .pointer (some ⟨rb, 0, none⟩)), (8, .pointer (some ⟨rb, 0, none⟩)), (7, .pointer (some ⟨rb, 0, none⟩)), (6, .int .i64 (i : Int))] [rb] (by kernel_rfl) ?_))
  refine sIfP (bpD ((i : Int) < (s.acc.length : Int))) (by kernel_rfl) (fun h1 => ?_) (fun h1 => ?_)
  · refine sSkip (sSeq (sBlock (sSeq (sReg (lRunS 5 [(3, 1, 0)] [(19, .int .i64 (i : Int)), (18, .slice da.a s.acc.length da.cap), (17, .pointer (some ⟨rb, 0, none⟩)), (16, .pointer (some ⟨rb, 0, none⟩)), (15, .pointer (some ⟨rb, 0, none⟩))] [rb] (by kernel_rfl) ?_)))))
    obtain ⟨q1, hq1⟩ := sd_at ha (by omega)
    refine lR (u := .pointer (some ⟨q1, i * 2, none⟩)) (runIndexD0 (T := 83) (E := 94) (n := s.acc.length) (c := da.cap) (b := q1) (k := 2) (ik := .i64) i hq1 (by kernel_rfl) (by kernel_rfl) (by omega)) (by kernel_rfl) (by kernel_rfl) (by kernel_rfl) (lRunS 1 [] [(21, .pointer (some ⟨q1, i * 2, none⟩))] [] (by kernel_rfl) ?_)
    obtain ⟨x2, hx2⟩ : ∃ x, s.acc[i]? = some x := ⟨_, List.getElem?_eq_getElem (by (try simp only [List.length_set, List.length_append, List.length_replicate, List.length_cons, List.length_nil]); omega)⟩
    refine lR (u := .string x2.1) (runLoadE (f := encAcc) (T := 9) (b := q1) (k := 2) (T' := 94) (rest := da.rest) (v := .string x2.1) (fun _ => rfl) 0 (2, 0) (sd_at0 hq1 1 (by kernel_rfl)) hx2 (by decide) rfl (by kernel_rfl)) (by kernel_rfl) (by kernel_rfl) (by kernel_rfl) (lRunS 2 [] [(24, .bool (x2.1.toList == k.toList)), (23, .string k)] [] (by kernel_rfl) (lEnd ?_))
    refine sIfP (bpS x2.1 k) (by kernel_rfl) (fun h2 => ?_) (fun h2 => ?_)
    · refine sSeq (sReg (lRunS 5 [(3, 1, 0)] [(29, .int .i64 (i : Int)), (28, .slice da.a s.acc.length da.cap), (27, .pointer (some ⟨rb, 0, none⟩)), (26, .pointer (some ⟨rb, 0, none⟩)), (25, .pointer (some ⟨rb, 0, none⟩))] [rb] (by kernel_rfl) (lR (u := .pointer (some ⟨q1, i * 2, none⟩)) (runIndexD0 (T := 83) (E := 94) (n := s.acc.length) (c := da.cap) (b := q1) (k := 2) (ik := .i64) i hq1 (by kernel_rfl) (by kernel_rfl) (by omega)) (by kernel_rfl) (by kernel_rfl) (by kernel_rfl) (lRunS 1 [] [(31, .pointer (some ⟨q1, i * 2 + 1, none⟩))] [] (by kernel_rfl) (lR (u := .int .i64 x2.2) (runLoadE (f := encAcc) (T := 2) (b := q1) (k := 2) (T' := 94) (rest := da.rest) (v := .int .i64 x2.2) (fun _ => rfl) 1 (2, 0) (sd_at0 hq1 1 (by kernel_rfl)) hx2 (by decide) rfl (by kernel_rfl)) (by kernel_rfl) (by kernel_rfl) (by kernel_rfl) ?_)))))
      refine lRunS 1 [] [(4, .int .i64 x2.2)] [] (by kernel_rfl) (lEnd (sRet ?_))
      exact wRet () (0, 0) [] (.int .i64 x2.2) [.tmp 4] rfl (by kernel_rfl) (congrArg (Value.int .i64) (by unfold accV; rw [accO_some' hI hx2 (by assumption)]; rfl)) trivial (fun _ h => h)
    · refine sSkip (sEnd (sReg (lRunS 2 [] [(14, .int .i64 (IntKind.i64.wrap ((i : Int) + 1))), (13, .int .i64 (i : Int))] [] (by kernel_rfl) (lOv 14 (iw (x := (i : Int) + 1) (by omega)) (by kernel_rfl) (lRunS 1 [] [(5, .int .i64 ((i : Int) + 1))] [] (by kernel_rfl) ?_)))))
      refine lEnd ?_
      exact sAgain (i + 1) ⟨by omega, take_ne hI hx2 (by assumption)⟩ (by first | omega | (simp only []; omega)) (by kernel_rfl) rfl
  · refine sExit (by kernel_rfl) (sSeq (rRunS [] [(4, .int .i64 0)] [] (by kernel_rfl) (sRet ?_)))
    exact wRet () (0, 0) [] (.int .i64 0) [.tmp 4] rfl (by kernel_rfl) (congrArg (Value.int .i64) (by unfold accV; rw [accO_none' (take_all hI (by omega))]; rfl)) trivial (fun _ h => h)

theorem c_client (W : World) (base : List Blk) (rb : Nat) (da dc dj : SD) (s : Srv) (hs : SrvOk s) (ha : da.ok 2 s.acc.length) (hc : dc.ok 5 s.cli.length) (hj : dj.ok 1 s.jr.length) (n : Int) : CP Tryd.prog W base 31 #[.pointer (some ⟨rb, 0, none⟩), .int .i64 n] [[(rb, .cells #[.slice da.a s.acc.length da.cap, .slice dc.a s.cli.length dc.cap, .slice dj.a s.jr.length dj.cap, .int .i64 ((s.cnt : Nat) : Int)] 86)], SD.blk 94 encAcc da s.acc, SD.blk 92 encCli dc s.cli, SD.blk 5 encByte dj s.jr] (.int .i64 (cliI s.cli n)) := by
  intro F
  refine ctIntro Tryd.func31 rfl rfl (by kernel_rfl) ?_
  refine sSeq (rRunS [] [(4, .int .i64 0)] [] (by kernel_rfl) (sSeq (sSeq (rRunS [] [(5, .int .i64 0)] [] (by kernel_rfl) (sBlock ?_)))))
  have hb1 := hs.nacc
  have hb2 := hs.ncli
  have hb3 := hs.cnt
  refine sLoop (fun (i : Nat) => [(5, .int .i64 (i : Int)), (1, .int .i64 n), (0, .pointer (some ⟨rb, 0, none⟩))]) (fun (i : Nat) => [[(rb, .cells #[.slice da.a s.acc.length da.cap, .slice dc.a s.cli.length dc.cap, .slice dj.a s.jr.length dj.cap, .int .i64 ((s.cnt : Nat) : Int)] 86)], SD.blk 94 encAcc da s.acc, SD.blk 92 encCli dc s.cli, SD.blk 5 encByte dj s.jr, F]) (fun (i : Nat) => i ≤ s.cli.length ∧ ∀ y ∈ s.cli.take i, ¬ y.1.client = n) (fun (i : Nat) => s.cli.length - i) 0 ⟨by omega, by simp⟩ (by kernel_rfl) rfl ?_
  rintro i ⟨hi, hI⟩
  refine sSeq (sSeq (rRunS [(4, 1, 0)] [(12, .bool (decide ((i : Int) < (s.cli.length : Int)))), (11, .int .i64 (s.cli.length : Int)), (10, .slice dc.a s.cli.length dc.cap), (9, .pointer (some ⟨rb, 1, none⟩)), (8, .pointer (some ⟨rb, 0, none⟩)), (7, .pointer (some ⟨rb, 0, none⟩)), (6, .int .i64 (i : Int))] [rb] (by kernel_rfl) ?_))
  refine sIfP (bpD ((i : Int) < (s.cli.length : Int))) (by kernel_rfl) (fun h1 => ?_) (fun h1 => ?_)
  · refine sSkip (sSeq (sBlock (sSeq (sReg (lRunS 5 [(3, 1, 0)] [(19, .int .i64 (i : Int)), (18, .slice dc.a s.cli.length dc.cap), (17, .pointer (some ⟨rb, 1, none⟩)), (16, .pointer (some ⟨rb, 0, none⟩)), (15, .pointer (some ⟨rb, 0, none⟩))] [rb] (by kernel_rfl) ?_)))))
    obtain ⟨q1, hq1⟩ := sd_at hc (by omega)
    refine lR (u := .pointer (some ⟨q1, i * 5, none⟩)) (runIndexD0 (T := 84) (E := 92) (n := s.cli.length) (c := dc.cap) (b := q1) (k := 5) (ik := .i64) i hq1 (by kernel_rfl) (by kernel_rfl) (by omega)) (by kernel_rfl) (by kernel_rfl) (by kernel_rfl) (lRunS 2 [] [(22, .pointer (some ⟨q1, i * 5, none⟩)), (21, .pointer (some ⟨q1, i * 5, none⟩))] [] (by kernel_rfl) ?_)
    obtain ⟨x2, hx2⟩ : ∃ x, s.cli[i]? = some x := ⟨_, List.getElem?_eq_getElem (by (try simp only [List.length_set, List.length_append, List.length_replicate, List.length_cons, List.length_nil]); omega)⟩
    refine lR (u := .int .i64 x2.1.client) (runLoadE (f := encCli) (T := 3) (b := q1) (k := 5) (T' := 92) (rest := dc.rest) (v := .int .i64 x2.1.client) (fun _ => rfl) 0 (3, 0) (sd_at0 hq1 2 (by kernel_rfl)) hx2 (by decide) rfl (by kernel_rfl)) (by kernel_rfl) (by kernel_rfl) (by kernel_rfl) (lRunS 2 [] [(25, .bool (decide (x2.1.client = n))), (24, .int .i64 n)] [] (by kernel_rfl) (lEnd ?_))
    refine sIfP (bpD (x2.1.client = n)) (by kernel_rfl) (fun h2 => ?_) (fun h2 => ?_)
    · refine sSeq (rRunS [] [(4, .int .i64 (i : Int)), (26, .int .i64 (i : Int))] [] (by kernel_rfl) (sRet ?_))
      exact wRet () (0, 0) [] (.int .i64 (i : Int)) [.tmp 4] rfl (by kernel_rfl) (congrArg (Value.int .i64) (cliI_some hI hx2 (by assumption)).symm) trivial (fun _ h => h)
    · refine sSkip (sEnd (sReg (lRunS 2 [] [(14, .int .i64 (IntKind.i64.wrap ((i : Int) + 1))), (13, .int .i64 (i : Int))] [] (by kernel_rfl) (lOv 14 (iw (x := (i : Int) + 1) (by omega)) (by kernel_rfl) (lRunS 1 [] [(5, .int .i64 ((i : Int) + 1))] [] (by kernel_rfl) ?_)))))
      refine lEnd ?_
      exact sAgain (i + 1) ⟨by omega, take_ne hI hx2 (by assumption)⟩ (by first | omega | (simp only []; omega)) (by kernel_rfl) rfl
  · refine sExit (by kernel_rfl) (sSeq (rRunS [] [(4, .int .i64 (-1))] [] (by kernel_rfl) (sRet ?_)))
    exact wRet () (0, 0) [] (.int .i64 (-1)) [.tmp 4] rfl (by kernel_rfl) (congrArg (Value.int .i64) (cliI_none (take_all hI (by omega))).symm) trivial (fun _ h => h)

theorem c_rlast (W : World) (base : List Blk) (rb : Nat) (da dc dj : SD) (s : Srv) (hs : SrvOk s) (ha : da.ok 2 s.acc.length) (hc : dc.ok 5 s.cli.length) (hj : dj.ok 1 s.jr.length) (n : Int) : CP Tryd.prog W base 15 #[.pointer (some ⟨rb, 0, none⟩), .int .i64 n] [[(rb, .cells #[.slice da.a s.acc.length da.cap, .slice dc.a s.cli.length dc.cap, .slice dj.a s.jr.length dj.cap, .int .i64 ((s.cnt : Nat) : Int)] 86)], SD.blk 94 encAcc da s.acc, SD.blk 92 encCli dc s.cli, SD.blk 5 encByte dj s.jr] (.tuple #[.int .i64 (lastS s n).1.seq, .int .i64 (lastS s n).2]) := by
  intro F
  refine ctIntro Tryd.func15 rfl rfl (by kernel_rfl) ?_
  refine sSeq (rRunS [] [(5, .int .i64 0), (4, .int .i64 0)] [] (by kernel_rfl) (sSeq (sReg (lRunS 2 [] [(8, .int .i64 n), (7, .pointer (some ⟨rb, 0, none⟩))] [] (by kernel_rfl) ?_))))
  refine lCallR [0, 1, 2, 3] [0, 1, 2, 3, 4] (c_client W base rb da dc dj s hs ha hc hj n) (by kernel_rfl) (by kernel_rfl) (by kernel_rfl) (by kernel_rfl) (by kernel_rfl) ?_
  rcases cliI_spec s.cli n with ⟨hi, ho⟩ | ⟨i, x, hi, hx, ho, hset⟩
  · refine lOv (v := .int .i64 (-1)) (v0 := .int .i64 (cliI s.cli n)) 9 (congrArg (Value.int .i64) hi) (by kernel_rfl) (lRunS 1 [] [(6, .int .i64 (-1))] [] (by kernel_rfl) (lEnd (sSeq (sSeq (rRunS [] [(11, .bool true), (10, .int .i64 (-1))] [] (by kernel_rfl) ?_)))))
    refine sIfT (by kernel_rfl) (sSeq (rRunS [] [(5, .int .i64 0), (4, .int .i64 0)] [] (by kernel_rfl) (sRet ?_)))
    exact wRet () (0, 0) [] (.tuple #[.int .i64 0, .int .i64 0]) [.tmp 4, .tmp 5] rfl (by kernel_rfl) (by unfold lastS; rw [ho]; rfl) trivial (fun _ h => h)
  · refine lOv (v := .int .i64 (i : Int)) (v0 := .int .i64 (cliI s.cli n)) 9 (congrArg (Value.int .i64) hi) (by kernel_rfl) ?_
    have hil := cliI_lt hx
    refine lRunS 1 [] [(6, .int .i64 (i : Int))] [] (by kernel_rfl) (lEnd (sSeq (sSeq (rRunS [] [(11, .bool (decide ((i : Int) < (0 : Int)))), (10, .int .i64 (i : Int))] [] (by kernel_rfl) ?_))))
    refine sIfP (bpD ((i : Int) < (0 : Int))) (by kernel_rfl) (fun h1 => ?_) (fun h1 => ?_)
    · exact absurd h1 (by omega)
    · refine sSkip (sSeq (rQuiet (by kernel_rfl) (by kernel_rfl) (qRun 5 [(3, 1, 0)] [(16, .int .i64 (i : Int)), (15, .slice dc.a s.cli.length dc.cap), (14, .pointer (some ⟨rb, 1, none⟩)), (13, .pointer (some ⟨rb, 0, none⟩)), (12, .pointer (some ⟨rb, 0, none⟩))] [rb] (by kernel_rfl) ?_)))
      obtain ⟨q1, hq1⟩ := sd_at hc (by omega)
      refine qR (u := .pointer (some ⟨q1, i * 5, none⟩)) (runIndexD0 (T := 84) (E := 92) (n := s.cli.length) (c := dc.cap) (b := q1) (k := 5) (ik := .i64) i hq1 (by kernel_rfl) (by kernel_rfl) (by omega)) (by kernel_rfl) (by kernel_rfl) (by kernel_rfl) (qRun 2 [] [(19, .pointer (some ⟨q1, i * 5 + 1, none⟩)), (18, .pointer (some ⟨q1, i * 5, none⟩))] [] (by kernel_rfl) (qR (u := .int .i64 x.1.seq) (runLoadE (f := encCli) (T := 2) (b := q1) (k := 5) (T' := 92) (rest := dc.rest) (v := .int .i64 x.1.seq) (fun _ => rfl) 1 (3, 0) (sd_at0 hq1 2 (by kernel_rfl)) hx (by decide) rfl (by kernel_rfl)) (by kernel_rfl) (by kernel_rfl) (by kernel_rfl) (qRun 5 [(3, 1, 0)] [(25, .int .i64 (i : Int)), (24, .slice dc.a s.cli.length dc.cap), (23, .pointer (some ⟨rb, 1, none⟩)), (22, .pointer (some ⟨rb, 0, none⟩)), (21, .pointer (some ⟨rb, 0, none⟩))] [rb] (by kernel_rfl) (qR (u := .pointer (some ⟨q1, i * 5, none⟩)) (runIndexD0 (T := 84) (E := 92) (n := s.cli.length) (c := dc.cap) (b := q1) (k := 5) (ik := .i64) i hq1 (by kernel_rfl) (by kernel_rfl) (by omega)) (by kernel_rfl) (by kernel_rfl) (by kernel_rfl) (qRun 1 [] [(27, .pointer (some ⟨q1, i * 5 + 4, none⟩))] [] (by kernel_rfl) ?_)))))
      refine qR (u := .int .i64 x.2) (runLoadE (f := encCli) (T := 2) (b := q1) (k := 5) (T' := 92) (rest := dc.rest) (v := .int .i64 x.2) (fun _ => rfl) 4 (3, 0) (sd_at0 hq1 2 (by kernel_rfl)) hx (by decide) rfl (by kernel_rfl)) (by kernel_rfl) (by kernel_rfl) (by kernel_rfl) (qRun 2 [] [(5, .int .i64 x.2), (4, .int .i64 x.1.seq)] [] (by kernel_rfl) (qEnd (sRet ?_)))
      exact wRet () (0, 0) [] (.tuple #[.int .i64 x.1.seq, .int .i64 x.2]) [.tmp 4, .tmp 5] rfl (by kernel_rfl) (by unfold lastS; rw [ho]; rfl) trivial (fun _ h => h)

theorem c_journal (W : World) (base : List Blk) (sb am cm : Nat) (dj : SD) (s : Srv) (hs : SrvOk s) (hj : dj.ok 1 s.jr.length) : CF Tryd.prog W base 17 #[.pointer (some ⟨sb, 0, none⟩)] [[(sb, .cells #[.map (some am), .map (some cm), .slice dj.a s.jr.length dj.cap, .int .i64 ((s.cnt : Nat) : Int)] 82)], [(am, .map (mkM Value.string (alM s.acc 0)) s.acc.length)], [(cm, .map (mkM (Value.int .i64) (clM s.cli 0)) s.cli.length)], SD.blk 5 encByte dj s.jr] (fun d : SD => .slice d.a s.jr.length d.cap) (fun d => [[(sb, .cells #[.map (some am), .map (some cm), .slice dj.a s.jr.length dj.cap, .int .i64 ((s.cnt : Nat) : Int)] 82)], [(am, .map (mkM Value.string (alM s.acc 0)) s.acc.length)], [(cm, .map (mkM (Value.int .i64) (clM s.cli 0)) s.cli.length)], SD.blk 5 encByte dj s.jr, SD.blk 5 encByte d s.jr]) (fun d => d.ok 1 s.jr.length) := by
  intro F; have hb3 := hs.cnt; have hb4 := hs.jr
  refine ctIntro Tryd.func17 rfl rfl (by kernel_rfl) ?_
  refine sSeq (rRunS [] [(2, .slice none 0 0)] [] (by kernel_rfl) (sSeq (sSeq (rRunS [] [(4, .bool false), (3, .pointer (some ⟨sb, 0, none⟩))] [] (by kernel_rfl) (sIfF (by kernel_rfl) ?_)))))
  refine sSkip (sSeq ?_)
  refine sNilI ?_
  refine sReg (lRunS 4 [(3, 1, 0)] [(8, .slice dj.a s.jr.length dj.cap), (7, .pointer (some ⟨sb, 2, none⟩)), (6, .pointer (some ⟨sb, 0, none⟩)), (5, .pointer (some ⟨sb, 0, none⟩))] [sb] (by kernel_rfl) ?_)
  refine lX (u := fun d' : SD => .slice d'.a (0 + s.jr.length) d'.cap) (runAppendS (t := 40) (ty := 40) (sa := dj.a) (c2 := dj.cap) (m := s.jr.length) (k := 1) (e := 5) (by_ := 1) (z := [.int .u8 0]) (f := encByte) (fun _ => rfl) ⟨none, 0, []⟩ ([] : List UInt8) (s.jr.take s.jr.length) 0 5 (by kernel_rfl) (by kernel_rfl) rfl rfl (by kernel_rfl) rfl (SD.ok_nil 1) (srcD (T := 5) (f := encByte) (fun _ => rfl) s.jr 3 s.jr.length hj rfl (by omega) (by kernel_rfl)) (fun _ _ _ hu => one_encByte hu) (by rw [List.length_take, (rfl : s.jr.length = s.jr.length)]; omega) (by omega) (by omega)) (by kernel_rfl) (by kernel_rfl) (fun _ => by kernel_rfl) ?_
  rintro d1 okd1
  refine lRunS 1 [] [(2, .slice d1.a (0 + s.jr.length) d1.cap)] [] (by kernel_rfl) (lEnd (sRet ?_))
  refine wfRe (its' := [[(sb, .cells #[.map (some am), .map (some cm), .slice dj.a s.jr.length dj.cap, .int .i64 ((s.cnt : Nat) : Int)] 82)], [(am, .map (mkM Value.string (alM s.acc 0)) s.acc.length)], [(cm, .map (mkM (Value.int .i64) (clM s.cli 0)) s.cli.length)], SD.blk 5 encByte dj s.jr, F, SD.blk 5 encByte d1 s.jr]) (by rw [List.take_length]; rfl) ?_
  exact wRet d1 (0, 0) [] (.slice d1.a (0 + s.jr.length) d1.cap) [.tmp 2] rfl (by kernel_rfl) (by rw [Nat.zero_add]) (by have h := okd1; rwa [Nat.zero_add] at h) (fun _ h => h.pick [0, 1, 2, 3, 5, 4] (by kernel_rfl) (by kernel_rfl))

theorem c_rjournal (W : World) (base : List Blk) (rb : Nat) (da dc dj : SD) (s : Srv) (hs : SrvOk s) (ha : da.ok 2 s.acc.length) (hc : dc.ok 5 s.cli.length) (hj : dj.ok 1 s.jr.length) : CF Tryd.prog W base 18 #[.pointer (some ⟨rb, 0, none⟩)] [[(rb, .cells #[.slice da.a s.acc.length da.cap, .slice dc.a s.cli.length dc.cap, .slice dj.a s.jr.length dj.cap, .int .i64 ((s.cnt : Nat) : Int)] 86)], SD.blk 94 encAcc da s.acc, SD.blk 92 encCli dc s.cli, SD.blk 5 encByte dj s.jr] (fun d : SD => .slice d.a s.jr.length d.cap) (fun d => [[(rb, .cells #[.slice da.a s.acc.length da.cap, .slice dc.a s.cli.length dc.cap, .slice dj.a s.jr.length dj.cap, .int .i64 ((s.cnt : Nat) : Int)] 86)], SD.blk 94 encAcc da s.acc, SD.blk 92 encCli dc s.cli, SD.blk 5 encByte dj s.jr, SD.blk 5 encByte d s.jr]) (fun d => d.ok 1 s.jr.length) := by
  intro F; have hb3 := hs.cnt; have hb4 := hs.jr
  refine ctIntro Tryd.func18 rfl rfl (by kernel_rfl) ?_
  refine sSeq (rRunS [] [(2, .slice none 0 0)] [] (by kernel_rfl) (sSeq (sReg ?_)))
  refine lRunN 5 [(4, 1, 0)] (fun b1 => [(7, .slice dj.a s.jr.length dj.cap), (6, .pointer (some ⟨rb, 2, none⟩)), (5, .pointer (some ⟨rb, 0, none⟩)), (4, .pointer (some ⟨rb, 0, none⟩)), (3, .slice (some ⟨b1, 0, none⟩) 0 0)]) (fun b1 => []) (fun b1 => .cells #[] 5) (fun b1 => [rb]) (fun b1 => by kernel_rfl) (fun b1 => ?_)
  refine lX (u := fun d' : SD => .slice d'.a (0 + s.jr.length) d'.cap) (runAppendS (t := 40) (ty := 40) (sa := dj.a) (c2 := dj.cap) (m := s.jr.length) (k := 1) (e := 5) (by_ := 1) (z := [.int .u8 0]) (f := encByte) (fun _ => rfl) ⟨some ⟨b1, 0, none⟩, 0, []⟩ [] (s.jr.take s.jr.length) 0 5 (by kernel_rfl) (by kernel_rfl) rfl rfl (by kernel_rfl) rfl (SD.ok_lit b1 0) (srcD (T := 5) (f := encByte) (fun _ => rfl) s.jr 3 s.jr.length hj rfl (by omega) (by kernel_rfl)) (fun _ _ _ hu => one_encByte hu) (by rw [List.length_take, (rfl : s.jr.length = s.jr.length)]; omega) (by omega) (by omega)) (by kernel_rfl) (by kernel_rfl) (fun _ => by kernel_rfl) ?_
  rintro d2 okd2
  refine lRunS 1 [] [(2, .slice d2.a (0 + s.jr.length) d2.cap)] [] (by kernel_rfl) (lEnd (sRet ?_))
  refine wfRe (its' := [[(rb, .cells #[.slice da.a s.acc.length da.cap, .slice dc.a s.cli.length dc.cap, .slice dj.a s.jr.length dj.cap, .int .i64 ((s.cnt : Nat) : Int)] 86)], SD.blk 94 encAcc da s.acc, SD.blk 92 encCli dc s.cli, SD.blk 5 encByte dj s.jr, F, SD.blk 5 encByte d2 s.jr]) (by rw [List.take_length]; rfl) ?_
  exact wRet d2 (0, 0) [] (.slice d2.a (0 + s.jr.length) d2.cap) [.tmp 2] rfl (by kernel_rfl) (by rw [Nat.zero_add]) (by have h := okd2; rwa [Nat.zero_add] at h) (fun _ h => h.pick [0, 1, 2, 3, 5, 4] (by kernel_rfl) (by kernel_rfl))

theorem c_bequal (W : World) (base : List Blk) (d d2 : SD) (xs ys : List UInt8) (hd : d.ok 1 xs.length) (hd2 : d2.ok 1 ys.length) : CP Tryd.prog W base 16 #[.slice d.a xs.length d.cap, .slice d2.a ys.length d2.cap] [SD.blk 5 encByte d xs, SD.blk 5 encByte d2 ys] (.bool (decide (xs = ys))) := by
  intro F
  refine ctIntro Tryd.func16 rfl rfl (by kernel_rfl) ?_
  refine sSeq (rRunS [] [(4, .bool false)] [] (by kernel_rfl) (sSeq (sReg (lRunS 1 [] [(5, .slice d.a xs.length d.cap)] [] (by kernel_rfl) (lR (u := .string (⟨xs.toArray⟩ : ByteArray)) (runBytesStr (f := encByte) (fun _ => rfl) (src := 40) (dst := 9) (e := 5) (n := xs.length) (i := 0) (T' := 5) d xs (by kernel_rfl) (by kernel_rfl) (by kernel_rfl) (by kernel_rfl) rfl hd) (by kernel_rfl) (by kernel_rfl) (by kernel_rfl) ?_)))))
  refine lRunS 1 [] [(7, .slice d2.a ys.length d2.cap)] [] (by kernel_rfl) (lR (u := .string (⟨ys.toArray⟩ : ByteArray)) (runBytesStr (f := encByte) (fun _ => rfl) (src := 40) (dst := 9) (e := 5) (n := ys.length) (i := 1) (T' := 5) d2 ys (by kernel_rfl) (by kernel_rfl) (by kernel_rfl) (by kernel_rfl) rfl hd2) (by kernel_rfl) (by kernel_rfl) (by kernel_rfl) (lRunS 2 [] [(4, .bool ((⟨xs.toArray⟩ : ByteArray).toList == (⟨ys.toArray⟩ : ByteArray).toList)), (9, .bool ((⟨xs.toArray⟩ : ByteArray).toList == (⟨ys.toArray⟩ : ByteArray).toList))] [] (by kernel_rfl) (lEnd (sRet ?_))))
  exact wRet () (0, 0) [] (.bool ((⟨xs.toArray⟩ : ByteArray).toList == (⟨ys.toArray⟩ : ByteArray).toList)) [.tmp 4] rfl (by kernel_rfl) (congrArg Value.bool (by rw [Bool.eq_iff_iff, beq_iff_eq, decide_eq_true_iff]; exact ⟨fun h => by have := ba_inj h; simpa using this, fun h => by rw [h]⟩)) trivial (fun _ h => h)

end Go.Proofs.YtljfjiaiachbfaaDoor
