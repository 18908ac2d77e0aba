/- The walk of FramesRuns: for all pools and calls it returns true. -/
import Derived.Test.YtinpojleegfadaaProg
import Derived.Test.YtinpojleegfadaaE9
import Derived.Test.YtinpojleegfadaaA1
import Derived.Test.YtinpojleegfadaaB1
import Derived.Test.YtinpojleegfadaaB4
import Derived.Test.YtinpojleegfadaaB5
import Derived.Test.YtinpojleegfadaaB6
namespace Go.Proofs.Ytinpojleegfadaa
open Go Go.Sx Go.Sx.Fr
set_option maxRecDepth 100000
set_option linter.unusedSimpArgs false
set_option linter.unusedVariables false
theorem small_data {l : List ActS} (h : smallB l = true) : ∀ x ∈ l, x.data.length ≤ 200 := by
  intro x hx
  unfold smallB at h
  rw [Bool.and_eq_true] at h
  have := List.all_eq_true.1 h.1 x hx
  unfold actOk at this
  simp only [Bool.and_eq_true, decide_eq_true_eq] at this
  exact this.1.2

theorem c_FramesRuns (W : World) (base : List Blk) (pa aa : Option Addr) (pc ac : Nat) (ps : List PoolS) (acts : List ActS) (hB : BS W encPool pa ps) (hpl : ps.length ≤ 9223372036854775807) (hcap : ps.length ≤ pc) (hA : BS W encAct aa acts) (hP : ActsB W acts) (hPc : ∀ x ∈ acts, x.pools.length ≤ x.pcap) (hal : acts.length ≤ 9223372036854775807) :
    CP Try.prog W base 4 #[.slice pa ps.length pc, .slice aa acts.length ac] [] (.bool true) := by
  intro F
  refine ctIntro Try.func4 rfl rfl (by kernel_rfl) ?_
  refine sSeq (rRunS [] [(4, .bool false)] [] (by kernel_rfl) (sSeq (sSeq (sReg (lRunS 1 [] [(11, .slice pa ps.length pc)] [] (by kernel_rfl) ?_)))))
  refine lCallR [] [0] (c_Few W base pa pc ps hB hpl) (by kernel_rfl) (by kernel_rfl) (by kernel_rfl) (by kernel_rfl) (by kernel_rfl) (lRunS 1 [] [(13, .bool (!(fewB ps)))] [] (by kernel_rfl) ?_)
  rcases Classical.em (fewB ps = true) with hfew | hfew
  · refine lOv (v := .bool false) (v0 := .bool (!(fewB ps))) 13 (ovN (bpR (fewB ps)) hfew) (by kernel_rfl) ?_
    have hn20 : ps.length ≤ 20 := few_len hfew
    refine lRunS 2 [] [(15, .slice aa acts.length ac), (14, .bool false)] [] (by kernel_rfl) ?_
    refine lCallR [] [0] (c_small W base aa ac acts hA hP hal) (by kernel_rfl) (by kernel_rfl) (by kernel_rfl) (by kernel_rfl) (by kernel_rfl) (lRunS 1 [] [(17, .bool (!(smallB acts)))] [] (by kernel_rfl) ?_)
    rcases Classical.em (smallB acts = true) with hsmb | hsmb
    · refine lOv (v := .bool false) (v0 := .bool (!(smallB acts))) 17 (ovN (bpR (smallB acts)) hsmb) (by kernel_rfl) ?_
      have hsm := small_pools hsmb
      have hsd2 := small_data hsmb
      refine lRunS 1 [] [(18, .bool false)] [] (by kernel_rfl) (lEnd (sIfF (by kernel_rfl) (sSkip (sSeq (sReg ?_)))))
      refine lRunS 1 [] [(21, .slice pa ps.length pc)] [] (by kernel_rfl) ?_
      refine lCallP [] (c_Pools W base pa pc ps hB hn20) (by kernel_rfl) (by kernel_rfl) (by kernel_rfl) ?_
      rintro sd hsd
      rcases Classical.em (newE ps = 0) with hz | hz
      · refine lCallP [0] (c_New W base sd ps hsd hn20) (by kernel_rfl) (by kernel_rfl) (by kernel_rfl) ?_
        rintro (_ | ⟨T, fs0⟩) hr
        · exact absurd hz (hr.1 rfl)
        obtain ⟨_, hp, ht0, hda0, h00⟩ := hr.2 T fs0 rfl
        refine lOv (v := .tuple #[.pointer (some ⟨T.tb, 0, none⟩), .int .i64 0]) (v0 := .tuple #[.pointer (some ⟨T.tb, 0, none⟩), .int .i64 (newE ps)]) 23 (by rw [hz]) (by kernel_rfl) (lRunS 5 [] [(6, .int .i64 0), (5, .pointer (some ⟨T.tb, 0, none⟩)), (25, .int .i64 0), (24, .pointer (some ⟨T.tb, 0, none⟩)), (20, .tuple #[.pointer (some ⟨T.tb, 0, none⟩), .int .i64 0])] [] (by kernel_rfl) (lEnd (sSeq (sReg (lRunS 1 [] [(27, .slice pa ps.length pc)] [] (by kernel_rfl) ?_)))))
        refine lCallP [] (c_rNew W base pa pc ps hB hn20 hcap) (by kernel_rfl) (by kernel_rfl) (by kernel_rfl) ?_
        rintro (_ | R) hq
        · exact absurd hz (hq.1 rfl)
        refine lOv (v := .tuple #[.pointer (some ⟨R.rt, 0, none⟩), .int .i64 0]) (v0 := .tuple #[.pointer (some ⟨R.rt, 0, none⟩), .int .i64 (newE ps)]) 28 (by rw [hz]) (by kernel_rfl) ?_
        refine lRe (its' := [[(R.rt, .cells #[.slice (some ⟨R.pb, 0, none⟩) T.pools.length R.pc, .slice (some ⟨R.rb, 0, none⟩) 4096 4096, .slice (some ⟨R.yb, 0, none⟩) 4096 4096] 81)], [(R.pb, .cells (arr encPool T.pools R.pr) 47)], [(R.rb, .cells (arr encInt (refsL fs0) []) 3)], [(R.yb, .cells (arr encPg (pagesL fs0) []) 71)], SD.blk 57 encPool sd ps, [(T.tb, .cells #[.slice (some ⟨T.pb, 0, none⟩) T.pools.length T.pc, .map (some T.ix), .map (some T.fm)] 63)], [(T.pb, .cells (arr encPool T.pools T.pr) 57)], [(T.ix, .map (mkM Value.string T.il) T.ic)], [(T.fm, .map (mkM (Value.int .i64) T.es) T.fc)], frB fs0, F]) (by have h := congrArg (fun I : Items => (I ++ ([SD.blk 57 encPool sd ps] ++ tabI T fs0 ++ [F])).flatten) (refN_refI (R := R) hp h00 hda0); exact h) ?_
        refine lRunS 5 [] [(8, .int .i64 0), (7, .pointer (some ⟨R.rt, 0, none⟩)), (30, .int .i64 0), (29, .pointer (some ⟨R.rt, 0, none⟩)), (26, .tuple #[.pointer (some ⟨R.rt, 0, none⟩), .int .i64 0])] [] (by kernel_rfl) (lEnd (sSeq (sSeq (rRunS [] [(33, .bool false), (32, .int .i64 0), (31, .int .i64 0)] [] (by kernel_rfl) (sIfF (by kernel_rfl) ?_)))))
        refine sSkip (sSeq (sSeq (rRunS [] [(36, .int .i64 0), (35, .int .i64 (acts.length : Int)), (34, .slice aa acts.length ac)] [] (by kernel_rfl) (sBlock ?_))))
        refine sLoop (fun (x_ : Nat × List FrS) => match x_ with | (i, fs) => [(36, .int .i64 (i : Int)), (35, .int .i64 (acts.length : Int)), (34, .slice aa acts.length ac), (7, .pointer (some ⟨R.rt, 0, none⟩)), (6, .int .i64 0), (5, .pointer (some ⟨T.tb, 0, none⟩)), (1, .slice aa acts.length ac), (0, .slice pa ps.length pc)]) (fun (x_ : Nat × List FrS) => match x_ with | (i, fs) => [[(R.rt, .cells #[.slice (some ⟨R.pb, 0, none⟩) T.pools.length R.pc, .slice (some ⟨R.rb, 0, none⟩) 4096 4096, .slice (some ⟨R.yb, 0, none⟩) 4096 4096] 81)], [(R.pb, .cells (arr encPool T.pools R.pr) 47)], [(R.rb, .cells (arr encInt (refsL fs) []) 3)], [(R.yb, .cells (arr encPg (pagesL fs) []) 71)], SD.blk 57 encPool sd ps, [(T.tb, .cells #[.slice (some ⟨T.pb, 0, none⟩) T.pools.length T.pc, .map (some T.ix), .map (some T.fm)] 63)], [(T.pb, .cells (arr encPool T.pools T.pr) 57)], [(T.ix, .map (mkM Value.string T.il) T.ic)], [(T.fm, .map (mkM (Value.int .i64) T.es) T.fc)], frB fs, F]) (fun (x_ : Nat × List FrS) => match x_ with | (i, fs) => i ≤ acts.length ∧ TabOk T fs ∧ PgOk fs) (fun (x_ : Nat × List FrS) => match x_ with | (i, fs) => acts.length - i) (0, fs0) ⟨by omega, ht0, pg_new hda0⟩ (by kernel_rfl) rfl ?_
        rintro ⟨i, fs⟩ ⟨hi, ht, hpg⟩
        refine sSeq (rRunS [] [(37, .bool (decide ((i : Int) < (acts.length : Int))))] [] (by kernel_rfl) (sSeq ?_))
        refine sIfP (bpD ((i : Int) < (acts.length : Int))) (by kernel_rfl) (fun h1 => ?_) (fun h1 => ?_)
        · refine sSkip (sSeq (sBlock (sSeq (sReg ?_))))
          obtain ⟨b1, ob1, hab1, hcb1⟩ := BS.some hA (by omega)
          refine lR (u := .pointer (some ⟨b1, ob1 + i * 8, none⟩)) (runIndexD (T := 23) (E := 38) (n := acts.length) (c := ac) (b := b1) (o := ob1) (k := 8) (ik := .i64) i hab1 (by kernel_rfl) (by kernel_rfl) (by omega)) (by kernel_rfl) (by kernel_rfl) (by kernel_rfl) ?_
          obtain ⟨x2, hx2⟩ : ∃ x, acts[i]? = some x := ⟨_, List.getElem?_eq_getElem (by (try simp only [List.length_set, List.length_append, List.length_replicate, List.length_cons, List.length_nil]); omega)⟩
          refine lR (u := .agg #[.int .u8 x2.do_, .slice x2.pa x2.pools.length x2.pcap, .int .i64 x2.a, .int .i64 x2.b, .int .i64 x2.n, .bool x2.contig, .bool x2.top, .slice x2.da x2.data.length x2.dcap]) (runLoadBS (f := encAct) (T := 38) (k := 8) (fun _ => rfl) hcb1 hx2 (by kernel_rfl) (by kernel_rfl)) (by kernel_rfl) (by kernel_rfl) (by kernel_rfl) ?_
          have hxm := List.mem_of_getElem? hx2
          refine lRunN 2 [(1, 12, 0)] (fun b3 => [(10, .pointer (some ⟨b3, 0, none⟩))]) (fun b3 => []) (fun b3 => .cells #[.int .u8 x2.do_, .slice x2.pa x2.pools.length x2.pcap, .int .i64 x2.a, .int .i64 x2.b, .int .i64 x2.n, .bool x2.contig, .bool x2.top, .slice x2.da x2.data.length x2.dcap] 38) (fun b3 => [b3, b3, b3, b3, b3, b3, b3, b3]) (fun b3 => by kernel_rfl) (fun b3 => ?_)
          refine lEnd (sSeq (sReg (lRunS 6 [(5, 12, 0)] [(45, .agg #[.int .u8 x2.do_, .slice x2.pa x2.pools.length x2.pcap, .int .i64 x2.a, .int .i64 x2.b, .int .i64 x2.n, .bool x2.contig, .bool x2.top, .slice x2.da x2.data.length x2.dcap]), (44, .pointer (some ⟨R.rt, 0, none⟩)), (43, .pointer (some ⟨T.tb, 0, none⟩)), (42, .bool true), (41, .bool true), (40, .int .i64 0)] [b3, b3, b3, b3, b3, b3, b3, b3] (by kernel_rfl) ?_)))
          refine lCallP [5, 6, 7, 8, 9, 0, 1, 2, 3] (c_same W base R T fs ht hpg x2 (hP x2 hxm).1 (hP x2 hxm).2.1 (hsm.2 x2 hxm) (hPc x2 hxm) (hsd2 x2 hxm)) (by kernel_rfl) (by kernel_rfl) (by kernel_rfl) ?_
          rintro fs2 hs2
          refine lRunS 2 [] [(48, .bool false), (47, .bool false)] [] (by kernel_rfl) (lEnd (sIfF (by kernel_rfl) (sSkip (sEnd (sReg ?_)))))
          refine lRunS 1 [] [(49, .int .i64 (IntKind.i64.wrap ((i : Int) + 1)))] [] (by kernel_rfl) (lOv 49 (iw (x := (i : Int) + 1) (by omega)) (by kernel_rfl) (lRunS 1 [] [(36, .int .i64 ((i : Int) + 1))] [] (by kernel_rfl) (lEnd ?_)))
          exact sPick [5, 6, 7, 8, 9, 0, 1, 2, 3, 4, 10] (by kernel_rfl) (by kernel_rfl) (sAgain (i + 1, fs2) ⟨by omega, hs2.1, hs2.2⟩ (by first | omega | (simp only []; omega)) (by kernel_rfl) rfl)
        · refine sExit (by kernel_rfl) (sSeq (sReg ?_))
          refine lCallR [] [0, 1, 2, 3, 4, 5, 6, 7, 8, 9, 10] (c_awake W base) (by kernel_rfl) (by kernel_rfl) (by kernel_rfl) (by kernel_rfl) (by kernel_rfl) (lRunS 1 [] [(4, .bool true)] [] (by kernel_rfl) (lEnd (sRet ?_)))
          exact wRet () (0, 0) [] (.bool true) [.tmp 4] rfl (by kernel_rfl) rfl trivial (fun _ h => h.pick [10] (by kernel_rfl) (by kernel_rfl))
      · refine lCallP [0] (c_New W base sd ps hsd hn20) (by kernel_rfl) (by kernel_rfl) (by kernel_rfl) ?_
        rintro (_ | ⟨T, fs0⟩) hr
        rotate_left
        · exact absurd (hr.2 T fs0 rfl).1 hz
        refine lRunS 5 [] [(6, .int .i64 (newE ps)), (5, .pointer none), (25, .int .i64 (newE ps)), (24, .pointer none), (20, .tuple #[.pointer none, .int .i64 (newE ps)])] [] (by kernel_rfl) (lEnd (sSeq (sReg (lRunS 1 [] [(27, .slice pa ps.length pc)] [] (by kernel_rfl) ?_))))
        refine lCallP [] (c_rNew W base pa pc ps hB hn20 hcap) (by kernel_rfl) (by kernel_rfl) (by kernel_rfl) ?_
        rintro (_ | R) hq
        rotate_left
        · exact absurd (hq.2 R rfl) hz
        refine lRunS 5 [] [(8, .int .i64 (newE ps)), (7, .pointer none), (30, .int .i64 (newE ps)), (29, .pointer none), (26, .tuple #[.pointer none, .int .i64 (newE ps)])] [] (by kernel_rfl) (lEnd (sSeq (sSeq (sReg (lRunS 3 [] [(33, .bool (!(decide ((newE ps) = (newE ps))))), (32, .int .i64 (newE ps)), (31, .int .i64 (newE ps))] [] (by kernel_rfl) ?_)))))
        refine lOv (v := .bool false) (v0 := .bool (!(decide ((newE ps) = (newE ps))))) 33 (ovN (bpD ((newE ps) = (newE ps))) rfl) (by kernel_rfl) (lEnd (sIfF (by kernel_rfl) (sSkip (sSeq (sSeq ?_)))))
        refine rRunS [] [(36, .int .i64 0), (35, .int .i64 (acts.length : Int)), (34, .slice aa acts.length ac)] [] (by kernel_rfl) (sBlock ?_)
        refine sLoop (fun (i : Nat) => [(36, .int .i64 (i : Int)), (35, .int .i64 (acts.length : Int)), (34, .slice aa acts.length ac), (7, .pointer none), (6, .int .i64 (newE ps)), (5, .pointer none), (1, .slice aa acts.length ac), (0, .slice pa ps.length pc)]) (fun (i : Nat) => [SD.blk 57 encPool sd ps, F]) (fun (i : Nat) => i ≤ acts.length) (fun (i : Nat) => acts.length - i) 0 (by omega) (by kernel_rfl) rfl ?_
        rintro i hi
        refine sSeq (rRunS [] [(37, .bool (decide ((i : Int) < (acts.length : Int))))] [] (by kernel_rfl) (sSeq ?_))
        refine sIfP (bpD ((i : Int) < (acts.length : Int))) (by kernel_rfl) (fun h2 => ?_) (fun h2 => ?_)
        · refine sSkip (sSeq (sBlock (sSeq (sReg ?_))))
          obtain ⟨b4, ob4, hab4, hcb4⟩ := BS.some hA (by omega)
          refine lR (u := .pointer (some ⟨b4, ob4 + i * 8, none⟩)) (runIndexD (T := 23) (E := 38) (n := acts.length) (c := ac) (b := b4) (o := ob4) (k := 8) (ik := .i64) i hab4 (by kernel_rfl) (by kernel_rfl) (by omega)) (by kernel_rfl) (by kernel_rfl) (by kernel_rfl) ?_
          obtain ⟨x5, hx5⟩ : ∃ x, acts[i]? = some x := ⟨_, List.getElem?_eq_getElem (by (try simp only [List.length_set, List.length_append, List.length_replicate, List.length_cons, List.length_nil]); omega)⟩
          refine lR (u := .agg #[.int .u8 x5.do_, .slice x5.pa x5.pools.length x5.pcap, .int .i64 x5.a, .int .i64 x5.b, .int .i64 x5.n, .bool x5.contig, .bool x5.top, .slice x5.da x5.data.length x5.dcap]) (runLoadBS (f := encAct) (T := 38) (k := 8) (fun _ => rfl) hcb4 hx5 (by kernel_rfl) (by kernel_rfl)) (by kernel_rfl) (by kernel_rfl) (by kernel_rfl) ?_
          have hxm := List.mem_of_getElem? hx5
          refine lRunN 2 [(1, 3, 0)] (fun b6 => [(10, .pointer (some ⟨b6, 0, none⟩))]) (fun b6 => []) (fun b6 => .cells #[.int .u8 x5.do_, .slice x5.pa x5.pools.length x5.pcap, .int .i64 x5.a, .int .i64 x5.b, .int .i64 x5.n, .bool x5.contig, .bool x5.top, .slice x5.da x5.data.length x5.dcap] 38) (fun b6 => [b6, b6, b6, b6, b6, b6, b6, b6]) (fun b6 => by kernel_rfl) (fun b6 => ?_)
          refine lEnd (sSeq (sReg (lRunS 2 [] [(41, .bool (decide ((newE ps) = (0 : Int)))), (40, .int .i64 (newE ps))] [] (by kernel_rfl) (lOv (v := .bool false) (v0 := .bool (decide ((newE ps) = (0 : Int)))) 41 (ovF (bpD ((newE ps) = (0 : Int))) hz) (by kernel_rfl) (lRunS 7 [] [(48, .bool false), (47, undef), (46, undef), (45, undef), (44, undef), (43, undef), (42, .bool false)] [] (by kernel_rfl) ?_)))))
          refine lEnd (sIfF (by kernel_rfl) (sSkip (sEnd (sReg (lRunS 1 [] [(49, .int .i64 (IntKind.i64.wrap ((i : Int) + 1)))] [] (by kernel_rfl) ?_)))))
          refine lOv 49 (iw (x := (i : Int) + 1) (by omega)) (by kernel_rfl) (lRunS 1 [] [(36, .int .i64 ((i : Int) + 1))] [] (by kernel_rfl) (lEnd ?_))
          exact sPick [0, 1] (by kernel_rfl) (by kernel_rfl) (sAgain (i + 1) (by omega) (by first | omega | (simp only []; omega)) (by kernel_rfl) rfl)
        · refine sExit (by kernel_rfl) (sSeq (sReg ?_))
          refine lCallR [] [0, 1] (c_awake W base) (by kernel_rfl) (by kernel_rfl) (by kernel_rfl) (by kernel_rfl) (by kernel_rfl) (lRunS 1 [] [(4, .bool true)] [] (by kernel_rfl) (lEnd (sRet ?_)))
          exact wRet () (0, 0) [] (.bool true) [.tmp 4] rfl (by kernel_rfl) rfl trivial (fun _ h => h.pick [1] (by kernel_rfl) (by kernel_rfl))
    · refine lOv (v := .bool true) (v0 := .bool (!(smallB acts))) 17 (ovNF (bpR (smallB acts)) hsmb) (by kernel_rfl) (lRunS 1 [] [(18, .bool true)] [] (by kernel_rfl) (lEnd (sIfT (by kernel_rfl) (sSeq (sReg ?_)))))
      refine lCallR [] [0] (c_awake W base) (by kernel_rfl) (by kernel_rfl) (by kernel_rfl) (by kernel_rfl) (by kernel_rfl) (lRunS 1 [] [(4, .bool true)] [] (by kernel_rfl) (lEnd (sRet ?_)))
      exact wRet () (0, 0) [] (.bool true) [.tmp 4] rfl (by kernel_rfl) rfl trivial (fun _ h => h)
  · refine lOv (v := .bool true) (v0 := .bool (!(fewB ps))) 13 (ovNF (bpR (fewB ps)) hfew) (by kernel_rfl) (lRunS 5 [] [(18, .bool true), (17, undef), (16, undef), (15, undef), (14, .bool true)] [] (by kernel_rfl) (lEnd (sIfT (by kernel_rfl) (sSeq (sReg ?_)))))
    refine lCallR [] [0] (c_awake W base) (by kernel_rfl) (by kernel_rfl) (by kernel_rfl) (by kernel_rfl) (by kernel_rfl) (lRunS 1 [] [(4, .bool true)] [] (by kernel_rfl) (lEnd (sRet ?_)))
    exact wRet () (0, 0) [] (.bool true) [.tmp 4] rfl (by kernel_rfl) rfl trivial (fun _ h => h)

end Go.Proofs.Ytinpojleegfadaa
