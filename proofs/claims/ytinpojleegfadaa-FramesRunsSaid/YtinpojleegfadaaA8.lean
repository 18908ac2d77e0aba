/- The walk of asked. -/
import Derived.Test.YtinpojleegfadaaProg
import Derived.Test.YtinpojleegfadaaFr
import Derived.Test.YtinpojleegfadaaA5
set_option linter.unusedVariables false
set_option linter.unusedSimpArgs false
namespace Go.Proofs.Ytinpojleegfadaa
open Go.Sx Go.Sx.Fr
set_option maxRecDepth 100000
set_option linter.unusedSimpArgs false
theorem c_asked (W : World) (base : List Blk) (T : TabS) (fs : List FrS) (ht : TabOk T fs) (nd : SD) (nl : List ByteArray) (hnd : nd.ok 1 nl.length) (hnl : nl.length < 9223372036854775807) :
    CF Try.prog W base 20 #[.pointer (some ⟨T.tb, 0, none⟩), .slice nd.a nl.length nd.cap] (tabI T fs ++ [SD.blk 9 encStr nd nl]) (fun d : SD => .tuple #[.slice d.a (askL T.pools nl).length d.cap, .int .i64 (askE T.pools nl)])
      (fun d => tabI T fs ++ [SD.blk 9 encStr nd nl, SD.blk 3 encNat d (askL T.pools nl)]) (fun d => d.ok 1 (askL T.pools nl).length) := by
  have htl := ht.len
  intro F
  refine ctIntro Try.func20 rfl rfl (by kernel_rfl) ?_
  refine sSeq (rRunS [] [(5, .int .i64 0), (4, .slice none 0 0)] [] (by kernel_rfl) (sSeq (rRunS [] [(6, .slice none 0 0)] [] (by kernel_rfl) (sSeq (sSeq ?_)))))
  refine rRunS [] [(17, .bool (decide ((nl.length : Int) = (0 : Int)))), (16, .int .i64 (nl.length : Int)), (15, .slice nd.a nl.length nd.cap)] [] (by kernel_rfl) ?_
  refine sIfP (bpD ((nl.length : Int) = (0 : Int))) (by kernel_rfl) (fun h1 => ?_) (fun h1 => ?_)
  · have hn0 : nl.length = 0 := by omega
    refine sSeq (sSeq (rRunS [(3, 1, 0)] [(23, .int .i64 0), (22, .int .i64 (T.pools.length : Int)), (21, .slice (some ⟨T.pb, 0, none⟩) T.pools.length T.pc), (20, .pointer (some ⟨T.tb, 0, none⟩)), (19, .pointer (some ⟨T.tb, 0, none⟩)), (18, .pointer (some ⟨T.tb, 0, none⟩))] [T.tb] (by kernel_rfl) (sBlock ?_)))
    refine sNilI ?_
    refine sLoop (fun (x_ : Nat × SD × List Nat) => match x_ with | (i, d, out) => [(23, .int .i64 (i : Int)), (22, .int .i64 (T.pools.length : Int)), (21, .slice (some ⟨T.pb, 0, none⟩) T.pools.length T.pc), (6, .slice d.a out.length d.cap), (0, .pointer (some ⟨T.tb, 0, none⟩))]) (fun (x_ : Nat × SD × List Nat) => match x_ with | (i, d, out) => [[(T.tb, .cells #[.slice (some ⟨T.pb, 0, none⟩) T.pools.length T.pc, .map (some T.ix), .map (some T.fm)] 63)], [(T.pb, .cells (arr encPool T.pools T.pr) 57)], [(T.ix, .map (mkM Value.string T.il) T.ic)], [(T.fm, .map (mkM (Value.int .i64) T.es) T.fc)], frB fs, SD.blk 9 encStr nd nl, F, SD.blk 3 encNat d out]) (fun (x_ : Nat × SD × List Nat) => match x_ with | (i, d, out) => i ≤ T.pools.length ∧ d.ok 1 out.length ∧ out.length ≤ i ∧ out ++ genL (T.pools.drop i) i = genL T.pools 0) (fun (x_ : Nat × SD × List Nat) => match x_ with | (i, d, out) => T.pools.length - i) (0, ⟨none, 0, []⟩, []) ⟨by omega, SD.ok_nil 1, by simp, by simp⟩ (by kernel_rfl) rfl ?_
    rintro ⟨i, d, out⟩ ⟨hi, hd, hl, hS⟩
    refine sSeq (rRunS [] [(24, .bool (decide ((i : Int) < (T.pools.length : Int))))] [] (by kernel_rfl) (sSeq ?_))
    refine sIfP (bpD ((i : Int) < (T.pools.length : Int))) (by kernel_rfl) (fun h2 => ?_) (fun h2 => ?_)
    · refine sSkip (sSeq (sBlock (sSeq (sReg (lRunS 1 [] [(25, .int .i64 (i : Int))] [] (by kernel_rfl) ?_)))))
      refine lR (u := .pointer (some ⟨T.pb, i * 5, none⟩)) (runIndex0 (T := 32) (E := 57) (n := T.pools.length) (c := T.pc) (b := T.pb) (k := 5) (ik := .i64) i (by kernel_rfl) (by kernel_rfl) (by omega)) (by kernel_rfl) (by kernel_rfl) (by kernel_rfl) ?_
      obtain ⟨x1, hx1⟩ : ∃ x, T.pools[i]? = some x := ⟨_, List.getElem?_eq_getElem (by (try simp only [List.length_set, List.length_append, List.length_replicate]); omega)⟩
      refine lR (u := .agg #[.string x1.name, .int .i64 x1.first, .int .i64 x1.count, .bool x1.general, .bool x1.keep]) (runLoadS (f := encPool) (T := 57) (b := T.pb) (k := 5) (T' := 57) (rest := T.pr) (fun _ => rfl) (2, 0) (by kernel_rfl) hx1 (by kernel_rfl) (by kernel_rfl)) (by kernel_rfl) (by kernel_rfl) (by kernel_rfl) ?_
      refine lRunN 3 [(2, 9, 0)] (fun b2 => [(7, .int .i64 (i : Int)), (8, .pointer (some ⟨b2, 0, none⟩))]) (fun b2 => []) (fun b2 => .cells #[.string x1.name, .int .i64 x1.first, .int .i64 x1.count, .bool x1.general, .bool x1.keep] 57) (fun b2 => [b2, b2, b2, b2, b2]) (fun b2 => by kernel_rfl) (fun b2 => ?_)
      refine lEnd (sSeq (rRunS [(1, 9, 0)] [(29, .bool x1.general), (28, .pointer (some ⟨b2, 3, none⟩))] [b2] (by kernel_rfl) ?_))
      refine sIfP (bpR x1.general) (by kernel_rfl) (fun h3 => ?_) (fun h3 => ?_)
      · refine sReg ?_
        refine lRunN 3 [] (fun b3 => [(32, .slice (some ⟨b3, 0, none⟩) 1 1), (31, .int .i64 (i : Int)), (30, .slice d.a out.length d.cap)]) (fun b3 => []) (fun b3 => .cells #[.int .i64 (i : Int)] 3) (fun b3 => []) (fun b3 => by kernel_rfl) (fun b3 => ?_)
        refine lX (u := fun d' : SD => .slice d'.a (out.length + 1) d'.cap) (runAppend1 (t := 39) (ty := 39) (b2 := b3) (cs := #[.int .i64 (i : Int)]) (T2 := 3) (k := 1) (e := 3) (by_ := 8) (z := [.int .i64 0]) (f := encNat) (fun _ => rfl) d out i out.length 7 9 (by kernel_rfl) (by kernel_rfl) rfl rfl (by kernel_rfl) rfl hd (by kernel_rfl) (by kernel_rfl) rfl (by omega) (by omega)) (by kernel_rfl) (by kernel_rfl) (fun _ => by kernel_rfl) ?_
        rintro d4 okd4
        refine lRunS 1 [] [(6, .slice d4.a (out.length + 1) d4.cap)] [] (by kernel_rfl) (lEnd (sEnd (sReg (lRunS 1 [] [(34, .int .i64 (IntKind.i64.wrap ((i : Int) + 1)))] [] (by kernel_rfl) (lOv 34 (iw (x := (i : Int) + 1) (by omega)) (by kernel_rfl) ?_)))))
        refine lRunS 1 [] [(23, .int .i64 ((i : Int) + 1))] [] (by kernel_rfl) (lEnd ?_)
        refine sOv (v := .slice d4.a ((out ++ [i]).length) d4.cap) (v0 := .slice d4.a (out.length + 1) d4.cap) 6 (congrArg (fun n => Value.slice d4.a n d4.cap) (by simp)) (by kernel_rfl) ?_
        exact sPick [0, 1, 2, 3, 4, 5, 6, 7] (by kernel_rfl) (by kernel_rfl) (sAgain (i + 1, d4, out ++ [i]) ⟨by omega, by simpa using okd4, by simp; omega, by rw [← hS, drop_of hx1]; simp only [genL]; rw [if_pos h3]; simp⟩ (by first | omega | (simp only []; omega)) (by kernel_rfl) rfl)
      · refine sSkip (sEnd (sReg (lRunS 1 [] [(34, .int .i64 (IntKind.i64.wrap ((i : Int) + 1)))] [] (by kernel_rfl) (lOv 34 (iw (x := (i : Int) + 1) (by omega)) (by kernel_rfl) (lRunS 1 [] [(23, .int .i64 ((i : Int) + 1))] [] (by kernel_rfl) ?_)))))
        refine lEnd ?_
        exact sPick [0, 1, 2, 3, 4, 5, 6, 7] (by kernel_rfl) (by kernel_rfl) (sAgain (i + 1, d, out) ⟨by omega, hd, by omega, by rw [← hS, drop_of hx1]; simp only [genL]; rw [if_neg h3]⟩ (by first | omega | (simp only []; omega)) (by kernel_rfl) rfl)
    · refine sExit (by kernel_rfl) (sSeq (rRunS [] [(5, .int .i64 0), (4, .slice d.a out.length d.cap), (35, .slice d.a out.length d.cap)] [] (by kernel_rfl) (sRet ?_)))
      have he : askE T.pools nl = 0 := by unfold askE; rw [if_pos hn0]
      have hL : out = askL T.pools nl := by unfold askL; rw [if_pos hn0, ← hS, List.drop_of_length_le (by omega)]; simp [genL]
      refine wfRe (its' := [[(T.tb, .cells #[.slice (some ⟨T.pb, 0, none⟩) T.pools.length T.pc, .map (some T.ix), .map (some T.fm)] 63)], [(T.pb, .cells (arr encPool T.pools T.pr) 57)], [(T.ix, .map (mkM Value.string T.il) T.ic)], [(T.fm, .map (mkM (Value.int .i64) T.es) T.fc)], frB fs, SD.blk 9 encStr nd nl, F, SD.blk 3 encNat d (askL T.pools nl)]) (by rw [hL]) ?_
      exact wRet d (0, 0) [] (.tuple #[.slice d.a out.length d.cap, .int .i64 0]) [.tmp 4, .tmp 5] rfl (by kernel_rfl) (by rw [he, hL]) (hL ▸ hd) (fun _ h => h.pick [0, 1, 2, 3, 4, 5, 7, 6] (by kernel_rfl) (by kernel_rfl))
  · have hn0 : ¬ nl.length = 0 := by omega
    refine sSkip (sSeq (sSeq (rRunS [] [(38, .bool (decide ((nl.length : Int) > (16 : Int)))), (37, .int .i64 (nl.length : Int)), (36, .slice nd.a nl.length nd.cap)] [] (by kernel_rfl) ?_)))
    refine sIfP (bpD ((nl.length : Int) > (16 : Int))) (by kernel_rfl) (fun h4 => ?_) (fun h4 => ?_)
    · have hn1 : nl.length > 16 := by omega
      refine sSeq (rRunS [] [(5, .int .i64 18), (4, .slice none 0 0)] [] (by kernel_rfl) (sRet ?_))
      have he : askE T.pools nl = 18 := by unfold askE; rw [if_neg hn0, if_pos hn1]
      have hL : askL T.pools nl = [] := by unfold askL; rw [if_neg hn0, if_neg (by rw [he]; decide)]
      refine wfRe (its' := [[(T.tb, .cells #[.slice (some ⟨T.pb, 0, none⟩) T.pools.length T.pc, .map (some T.ix), .map (some T.fm)] 63)], [(T.pb, .cells (arr encPool T.pools T.pr) 57)], [(T.ix, .map (mkM Value.string T.il) T.ic)], [(T.fm, .map (mkM (Value.int .i64) T.es) T.fc)], frB fs, SD.blk 9 encStr nd nl, F, SD.blk 3 encNat ⟨none, 0, []⟩ (askL T.pools nl)]) (by rw [hL]; simp [SD.blk, tabI]) ?_
      exact wRet ⟨none, 0, []⟩ (0, 0) [] (.tuple #[.slice none 0 0, .int .i64 18]) [.tmp 4, .tmp 5] rfl (by kernel_rfl) (by rw [he, hL]; rfl) (by rw [hL]; exact SD.ok_nil 1) (fun _ h => h.pick [0, 1, 2, 3, 4, 5, 7, 6] (by kernel_rfl) (by kernel_rfl))
    · have hn1 : ¬ nl.length > 16 := by omega
      refine sSkip (sSeq (sSeq (rRunS [] [(41, .int .i64 0), (40, .int .i64 (nl.length : Int)), (39, .slice nd.a nl.length nd.cap)] [] (by kernel_rfl) (sBlock ?_))))
      refine sNilI ?_
      refine sLoop (fun (x_ : Nat × SD × List Nat) => match x_ with | (i, d, out) => [(41, .int .i64 (i : Int)), (40, .int .i64 (nl.length : Int)), (39, .slice nd.a nl.length nd.cap), (6, .slice d.a out.length d.cap), (0, .pointer (some ⟨T.tb, 0, none⟩))]) (fun (x_ : Nat × SD × List Nat) => match x_ with | (i, d, out) => [[(T.tb, .cells #[.slice (some ⟨T.pb, 0, none⟩) T.pools.length T.pc, .map (some T.ix), .map (some T.fm)] 63)], [(T.pb, .cells (arr encPool T.pools T.pr) 57)], [(T.ix, .map (mkM Value.string T.il) T.ic)], [(T.fm, .map (mkM (Value.int .i64) T.es) T.fc)], frB fs, SD.blk 9 encStr nd nl, F, SD.blk 3 encNat d out]) (fun (x_ : Nat × SD × List Nat) => match x_ with | (i, d, out) => i ≤ nl.length ∧ d.ok 1 out.length ∧ out.length = i ∧ lookL T.pools nl = (lookL T.pools (nl.drop i)).map (out ++ ·)) (fun (x_ : Nat × SD × List Nat) => match x_ with | (i, d, out) => nl.length - i) (0, ⟨none, 0, []⟩, []) ⟨by omega, SD.ok_nil 1, by simp, by simp⟩ (by kernel_rfl) rfl ?_
      rintro ⟨i, d, out⟩ ⟨hi, hd, hl, hS⟩
      refine sSeq (rRunS [] [(42, .bool (decide ((i : Int) < (nl.length : Int))))] [] (by kernel_rfl) (sSeq ?_))
      refine sIfP (bpD ((i : Int) < (nl.length : Int))) (by kernel_rfl) (fun h5 => ?_) (fun h5 => ?_)
      · refine sSkip (sSeq (sBlock (sSeq (sReg ?_))))
        obtain ⟨q5, hq5⟩ := sd_at hnd (by omega)
        refine lR (u := .pointer (some ⟨q5, i * 1, none⟩)) (runIndexD0 (T := 35) (E := 9) (n := nl.length) (c := nd.cap) (b := q5) (k := 1) (ik := .i64) i hq5 (by kernel_rfl) (by kernel_rfl) (by omega)) (by kernel_rfl) (by kernel_rfl) (by kernel_rfl) ?_
        obtain ⟨x6, hx6⟩ : ∃ x, nl[i]? = some x := ⟨_, List.getElem?_eq_getElem (by (try simp only [List.length_set, List.length_append, List.length_replicate]); omega)⟩
        refine lR (u := .string x6) (runLoadE1 (f := encStr) (T := 9) (b := q5) (T' := 9) (rest := nd.rest) (v := .string x6) (fun _ => rfl) (6, 0) (sd_at0 hq5 5 (by kernel_rfl)) hx6 rfl (by kernel_rfl)) (by kernel_rfl) (by kernel_rfl) (by kernel_rfl) (lRunS 1 [] [(10, .string x6)] [] (by kernel_rfl) (lEnd (sSeq (sReg (lRunS 5 [(3, 1, 0)] [(50, .string x6), (49, .map (some T.ix)), (48, .pointer (some ⟨T.tb, 1, none⟩)), (47, .pointer (some ⟨T.tb, 0, none⟩)), (46, .pointer (some ⟨T.tb, 0, none⟩))] [T.tb] (by kernel_rfl) ?_)))))
        refine lR (u := .tuple #[(lkM T.il x6).getD (.int .i64 0), .bool ((lkM T.il x6).isSome)]) (runLookOk (T := 60) (b := T.ix) (K := 9) (E := 3) (l := T.il) (clk := T.ic) (by kernel_rfl) (keyStr (by kernel_rfl)) (.int .i64 0) (by kernel_rfl) (3, 0) x6 (by kernel_rfl)) (by kernel_rfl) (by kernel_rfl) (by kernel_rfl) ?_
        rcases hj : idxOf T.pools x6 with _ | j
        · refine lOv 51 (ht.look0 hj) (by kernel_rfl) (lRunS 5 [] [(12, .bool false), (11, .int .i64 0), (53, .bool false), (52, .int .i64 0), (45, .tuple #[.int .i64 0, .bool false])] [] (by kernel_rfl) (lEnd (sSeq (sSeq (rRunS [] [(55, .bool true), (54, .bool false)] [] (by kernel_rfl) ?_)))))
          refine sIfT (by kernel_rfl) (sSeq (rRunS [] [(5, .int .i64 22), (4, .slice none 0 0)] [] (by kernel_rfl) (sRet ?_)))
          have he : askE T.pools nl = 22 := by unfold askE; rw [if_neg hn0, if_neg hn1, hS, drop_of hx6]; simp only [lookL, hj]; rfl
          have hL : askL T.pools nl = [] := by unfold askL; rw [if_neg hn0, if_neg (by rw [he]; decide)]
          refine wfRe (its' := [[(T.tb, .cells #[.slice (some ⟨T.pb, 0, none⟩) T.pools.length T.pc, .map (some T.ix), .map (some T.fm)] 63)], [(T.pb, .cells (arr encPool T.pools T.pr) 57)], [(T.ix, .map (mkM Value.string T.il) T.ic)], [(T.fm, .map (mkM (Value.int .i64) T.es) T.fc)], frB fs, SD.blk 9 encStr nd nl, F, SD.blk 3 encNat d out, SD.blk 3 encNat ⟨none, 0, []⟩ (askL T.pools nl)]) (by rw [hL]; simp [SD.blk, tabI]) ?_
          exact wRet ⟨none, 0, []⟩ (0, 0) [] (.tuple #[.slice none 0 0, .int .i64 22]) [.tmp 4, .tmp 5] rfl (by kernel_rfl) (by rw [he, hL]; rfl) (by rw [hL]; exact SD.ok_nil 1) (fun _ h => h.pick [0, 1, 2, 3, 4, 5, 8, 6] (by kernel_rfl) (by kernel_rfl))
        · refine lOv 51 (ht.look1 hj) (by kernel_rfl) (lRunS 5 [] [(12, .bool true), (11, .int .i64 (j : Int)), (53, .bool true), (52, .int .i64 (j : Int)), (45, .tuple #[.int .i64 (j : Int), .bool true])] [] (by kernel_rfl) (lEnd (sSeq (sSeq (rRunS [] [(55, .bool false), (54, .bool true)] [] (by kernel_rfl) ?_)))))
          refine sIfF (by kernel_rfl) (sSkip (sReg ?_))
          refine lRunN 3 [] (fun b7 => [(58, .slice (some ⟨b7, 0, none⟩) 1 1), (57, .int .i64 (j : Int)), (56, .slice d.a out.length d.cap)]) (fun b7 => []) (fun b7 => .cells #[.int .i64 (j : Int)] 3) (fun b7 => []) (fun b7 => by kernel_rfl) (fun b7 => ?_)
          refine lX (u := fun d' : SD => .slice d'.a (out.length + 1) d'.cap) (runAppend1 (t := 39) (ty := 39) (b2 := b7) (cs := #[.int .i64 (j : Int)]) (T2 := 3) (k := 1) (e := 3) (by_ := 8) (z := [.int .i64 0]) (f := encNat) (fun _ => rfl) d out j out.length 7 8 (by kernel_rfl) (by kernel_rfl) rfl rfl (by kernel_rfl) rfl hd (by kernel_rfl) (by kernel_rfl) rfl (by omega) (by omega)) (by kernel_rfl) (by kernel_rfl) (fun _ => by kernel_rfl) ?_
          rintro d8 okd8
          refine lRunS 1 [] [(6, .slice d8.a (out.length + 1) d8.cap)] [] (by kernel_rfl) (lEnd (sEnd (sReg (lRunS 1 [] [(60, .int .i64 (IntKind.i64.wrap ((i : Int) + 1)))] [] (by kernel_rfl) (lOv 60 (iw (x := (i : Int) + 1) (by omega)) (by kernel_rfl) ?_)))))
          refine lRunS 1 [] [(41, .int .i64 ((i : Int) + 1))] [] (by kernel_rfl) (lEnd ?_)
          refine sOv (v := .slice d8.a ((out ++ [j]).length) d8.cap) (v0 := .slice d8.a (out.length + 1) d8.cap) 6 (congrArg (fun n => Value.slice d8.a n d8.cap) (by simp)) (by kernel_rfl) ?_
          exact sPick [0, 1, 2, 3, 4, 5, 6, 7] (by kernel_rfl) (by kernel_rfl) (sAgain (i + 1, d8, out ++ [j]) ⟨by omega, by simpa using okd8, by simp; omega, by rw [hS, drop_of hx6]; simp only [lookL, hj]; cases lookL T.pools (nl.drop (i + 1)) <;> simp⟩ (by first | omega | (simp only []; omega)) (by kernel_rfl) rfl)
      · refine sExit (by kernel_rfl) (sSeq (sSeq (rRunS [] [(63, .int .i64 0), (62, .int .i64 (out.length : Int)), (61, .slice d.a out.length d.cap)] [] (by kernel_rfl) (sBlock ?_))))
        have hlk : lookL T.pools nl = some out := by rw [hS, List.drop_of_length_le (by omega)]; simp [lookL]
        refine sLoop (fun (k : Nat) => [(63, .int .i64 (k : Int)), (62, .int .i64 (out.length : Int)), (61, .slice d.a out.length d.cap), (6, .slice d.a out.length d.cap)]) (fun (k : Nat) => [[(T.tb, .cells #[.slice (some ⟨T.pb, 0, none⟩) T.pools.length T.pc, .map (some T.ix), .map (some T.fm)] 63)], [(T.pb, .cells (arr encPool T.pools T.pr) 57)], [(T.ix, .map (mkM Value.string T.il) T.ic)], [(T.fm, .map (mkM (Value.int .i64) T.es) T.fc)], frB fs, SD.blk 9 encStr nd nl, F, SD.blk 3 encNat d out]) (fun (k : Nat) => k ≤ out.length ∧ ∀ q, q < k → ¬ dupAt out q) (fun (k : Nat) => out.length - k) 0 ⟨by omega, fun q h => by omega⟩ (by kernel_rfl) rfl ?_
        rintro k ⟨hk, hK⟩
        refine sSeq (rRunS [] [(64, .bool (decide ((k : Int) < (out.length : Int))))] [] (by kernel_rfl) (sSeq ?_))
        refine sIfP (bpD ((k : Int) < (out.length : Int))) (by kernel_rfl) (fun h6 => ?_) (fun h6 => ?_)
        · refine sSkip (sSeq (sBlock (sSeq (sReg (lRunS 1 [] [(65, .int .i64 (k : Int))] [] (by kernel_rfl) ?_)))))
          obtain ⟨q9, hq9⟩ := sd_at hd (by omega)
          refine lR (u := .pointer (some ⟨q9, k * 1, none⟩)) (runIndexD0 (T := 39) (E := 3) (n := out.length) (c := d.cap) (b := q9) (k := 1) (ik := .i64) k hq9 (by kernel_rfl) (by kernel_rfl) (by omega)) (by kernel_rfl) (by kernel_rfl) (by kernel_rfl) ?_
          obtain ⟨x10, hx10⟩ : ∃ x, out[k]? = some x := ⟨_, List.getElem?_eq_getElem (by (try simp only [List.length_set, List.length_append, List.length_replicate]); omega)⟩
          refine lR (u := .int .i64 (x10 : Int)) (runLoadE1 (f := encNat) (T := 3) (b := q9) (T' := 3) (rest := d.rest) (v := .int .i64 (x10 : Int)) (fun _ => rfl) (8, 0) (sd_at0 hq9 7 (by kernel_rfl)) hx10 rfl (by kernel_rfl)) (by kernel_rfl) (by kernel_rfl) (by kernel_rfl) (lRunS 2 [] [(14, .int .i64 (x10 : Int)), (13, .int .i64 (k : Int))] [] (by kernel_rfl) (lEnd (sSeq (sReg (lRunS 2 [] [(69, .int .i64 (k : Int)), (68, .slice d.a out.length d.cap)] [] (by kernel_rfl) ?_)))))
          refine lR (u := .slice d.a k d.cap) (runSliceHi (T := 39) (E := 3) (n := out.length) (c := d.cap) (a := d.a) (ik := .i64) k (by kernel_rfl) (by kernel_rfl) (Nat.le_trans hk (sd_cap hd))) (by kernel_rfl) (by kernel_rfl) (by kernel_rfl) (lRunS 1 [] [(71, .int .i64 (x10 : Int))] [] (by kernel_rfl) (lCallR [7] [1, 2, 3, 4, 5, 6, 7, 0] (c_Contains W base d out k (x10 : Int) hd (by omega) (by omega)) (by kernel_rfl) (by kernel_rfl) (by kernel_rfl) (by kernel_rfl) (by kernel_rfl) (lEnd ?_)))
          refine sIfP (bpD (idxN (out.take k) (x10 : Int) 0 ≥ (0 : Int))) (by kernel_rfl) (fun h7 => ?_) (fun h7 => ?_)
          · refine sSeq (rRunS [] [(5, .int .i64 38), (4, .slice none 0 0)] [] (by kernel_rfl) (sRet ?_))
            have he : askE T.pools nl = 38 := by unfold askE; rw [if_neg hn0, if_neg hn1, hlk]; simp only []; rw [dupB_yes (k := k) (by omega) (by unfold dupAt; rw [hx10]; exact h7)]; rfl
            have hL : askL T.pools nl = [] := by unfold askL; rw [if_neg hn0, if_neg (by rw [he]; decide)]
            refine wfRe (its' := [[(T.tb, .cells #[.slice (some ⟨T.pb, 0, none⟩) T.pools.length T.pc, .map (some T.ix), .map (some T.fm)] 63)], [(T.pb, .cells (arr encPool T.pools T.pr) 57)], [(T.ix, .map (mkM Value.string T.il) T.ic)], [(T.fm, .map (mkM (Value.int .i64) T.es) T.fc)], frB fs, SD.blk 9 encStr nd nl, F, SD.blk 3 encNat d out, SD.blk 3 encNat ⟨none, 0, []⟩ (askL T.pools nl)]) (by rw [hL]; simp [SD.blk, tabI]) ?_
            exact wRet ⟨none, 0, []⟩ (0, 0) [] (.tuple #[.slice none 0 0, .int .i64 38]) [.tmp 4, .tmp 5] rfl (by kernel_rfl) (by rw [he, hL]; rfl) (by rw [hL]; exact SD.ok_nil 1) (fun _ h => h.pick [0, 1, 2, 3, 4, 5, 8, 6] (by kernel_rfl) (by kernel_rfl))
          · refine sSkip (sEnd (sReg (lRunS 1 [] [(73, .int .i64 (IntKind.i64.wrap ((k : Int) + 1)))] [] (by kernel_rfl) (lOv 73 (iw (x := (k : Int) + 1) (by omega)) (by kernel_rfl) (lRunS 1 [] [(63, .int .i64 ((k : Int) + 1))] [] (by kernel_rfl) ?_)))))
            refine lEnd ?_
            exact sAgain (k + 1) ⟨by omega, fun q hq => (Nat.lt_or_ge q k).elim (hK q) fun h => (show q = k by omega) ▸ (by unfold dupAt; rw [hx10]; exact h7)⟩ (by first | omega | (simp only []; omega)) (by kernel_rfl) rfl
        · refine sExit (by kernel_rfl) (sSeq (rRunS [] [(5, .int .i64 0), (4, .slice d.a out.length d.cap), (74, .slice d.a out.length d.cap)] [] (by kernel_rfl) (sRet ?_)))
          have he : askE T.pools nl = 0 := by unfold askE; rw [if_neg hn0, if_neg hn1, hlk]; simp only []; rw [dupB_no (fun q hq => hK q (by omega))]; rfl
          have hL : out = askL T.pools nl := by unfold askL; rw [if_neg hn0, if_pos he, hlk]; rfl
          refine wfRe (its' := [[(T.tb, .cells #[.slice (some ⟨T.pb, 0, none⟩) T.pools.length T.pc, .map (some T.ix), .map (some T.fm)] 63)], [(T.pb, .cells (arr encPool T.pools T.pr) 57)], [(T.ix, .map (mkM Value.string T.il) T.ic)], [(T.fm, .map (mkM (Value.int .i64) T.es) T.fc)], frB fs, SD.blk 9 encStr nd nl, F, SD.blk 3 encNat d (askL T.pools nl)]) (by rw [hL]) ?_
          exact wRet d (0, 0) [] (.tuple #[.slice d.a out.length d.cap, .int .i64 0]) [.tmp 4, .tmp 5] rfl (by kernel_rfl) (by rw [he, hL]) (hL ▸ hd) (fun _ h => h.pick [0, 1, 2, 3, 4, 5, 7, 6] (by kernel_rfl) (by kernel_rfl))

end Go.Proofs.Ytinpojleegfadaa
