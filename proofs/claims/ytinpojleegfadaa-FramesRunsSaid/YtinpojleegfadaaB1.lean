/- The walks of small and Pools. -/
import Derived.Test.YtinpojleegfadaaProg
import Derived.Test.YtinpojleegfadaaFt
namespace Go.Proofs.Ytinpojleegfadaa
open Go.Sx Go.Sx.Fr
set_option maxRecDepth 100000
set_option linter.unusedSimpArgs false
set_option linter.unusedVariables false
theorem c_small (W : World) (base : List Blk) (al : Option Addr) (ac : Nat) (acts : List ActS) (hB : BS W encAct al acts) (hP : ActsB W acts) (hn : acts.length ≤ 9223372036854775807) :
    CP Try.prog W base 6 #[.slice al acts.length ac] [] (.bool (smallB acts)) := by
  intro F
  refine ctIntro Try.func6 rfl rfl (by kernel_rfl) ?_
  refine sSeq (rRunS [] [(2, .bool false)] [] (by kernel_rfl) (sSeq (sSeq (rRunS [] [(9, .int .i64 0), (8, .int .i64 (acts.length : Int)), (7, .slice al acts.length ac)] [] (by kernel_rfl) (sBlock ?_)))))
  refine sLoop (fun (i : Nat) => [(9, .int .i64 (i : Int)), (8, .int .i64 (acts.length : Int)), (7, .slice al acts.length ac), (0, .slice al acts.length ac)]) (fun (i : Nat) => [F]) (fun (i : Nat) => i ≤ acts.length ∧ ∀ y ∈ acts.take i, actOk y = true) (fun (i : Nat) => acts.length - i) 0 ⟨by omega, by simp⟩ (by kernel_rfl) rfl ?_
  rintro i ⟨hi, hI⟩
  refine sSeq (rRunS [] [(10, .bool (decide ((i : Int) < (acts.length : Int))))] [] (by kernel_rfl) (sSeq ?_))
  refine sIfP (bpD ((i : Int) < (acts.length : Int))) (by kernel_rfl) (fun h1 => ?_) (fun h1 => ?_)
  · refine sSkip (sSeq (sBlock (sSeq (sReg ?_))))
    obtain ⟨b1, ob1, hab1, hcb1⟩ := BS.some hB (by omega)
    refine lR (u := .pointer (some ⟨b1, ob1 + i * 8, none⟩)) (runIndexD (T := 23) (E := 38) (n := acts.length) (c := ac) (b := b1) (o := ob1) (k := 8) (ik := .i64) i hab1 (by kernel_rfl) (by kernel_rfl) (by omega)) (by kernel_rfl) (by kernel_rfl) (by kernel_rfl) ?_
    obtain ⟨x2, hx2⟩ : ∃ x, acts[i]? = some x := ⟨_, List.getElem?_eq_getElem (by (try simp only [List.length_set, List.length_append, List.length_replicate]); omega)⟩
    refine lR (u := .agg #[.int .u8 x2.do_, .slice x2.pa x2.pools.length x2.pcap, .int .i64 x2.a, .int .i64 x2.b, .int .i64 x2.n, .bool x2.contig, .bool x2.top, .slice x2.da x2.data.length x2.dcap]) (runLoadBS (f := encAct) (T := 38) (k := 8) (fun _ => rfl) hcb1 hx2 (by kernel_rfl) (by kernel_rfl)) (by kernel_rfl) (by kernel_rfl) (by kernel_rfl) ?_
    refine lRunN 2 [(1, 2, 0)] (fun b3 => [(4, .pointer (some ⟨b3, 0, none⟩))]) (fun b3 => []) (fun b3 => .cells #[.int .u8 x2.do_, .slice x2.pa x2.pools.length x2.pcap, .int .i64 x2.a, .int .i64 x2.b, .int .i64 x2.n, .bool x2.contig, .bool x2.top, .slice x2.da x2.data.length x2.dcap] 38) (fun b3 => [b3, b3, b3, b3, b3, b3, b3, b3]) (fun b3 => by kernel_rfl) (fun b3 => ?_)
    refine lEnd (sSeq (sSeq (sReg (lRunS 5 [(1, 2, 0)] [(17, .bool (decide ((x2.pools.length : Int) > (20 : Int)))), (16, .bool (decide ((x2.pools.length : Int) > (20 : Int)))), (15, .int .i64 (x2.pools.length : Int)), (14, .slice x2.pa x2.pools.length x2.pcap), (13, .pointer (some ⟨b3, 1, none⟩))] [b3] (by kernel_rfl) (lShort 5 [(1, 2, 0)] 17 (decide ((x2.pools.length : Int) > (20 : Int))) 22 true (decide ((x2.data.length : Int) > (200 : Int))) [(21, undef), (20, undef), (19, undef), (18, undef)] [(21, .bool (decide ((x2.data.length : Int) > (200 : Int)))), (20, .int .i64 (x2.data.length : Int)), (19, .slice x2.da x2.data.length x2.dcap), (18, .pointer (some ⟨b3, 7, none⟩))] [] [b3] (by kernel_rfl) (by kernel_rfl) (by kernel_rfl) (by kernel_rfl) ?_)))))
    refine lEnd ?_
    refine sIfP (bpO (bpD ((x2.pools.length : Int) > (20 : Int))) (bpD ((x2.data.length : Int) > (200 : Int)))) (by kernel_rfl) (fun h2 => ?_) (fun h2 => ?_)
    · refine sSeq (rRunS [] [(2, .bool false)] [] (by kernel_rfl) (sRet ?_))
      exact wRet () (0, 0) [] (.bool false) [.tmp 2] rfl (by kernel_rfl) (congrArg Value.bool (by unfold smallB; rw [all_no hx2 (actOk_no1 (by omega))]; rfl)) trivial (fun _ h => h.pick [0] (by kernel_rfl) (by kernel_rfl))
    · refine sSkip (sSeq (rRunS [(1, 2, 0)] [(26, .int .i64 0), (25, .int .i64 (x2.pools.length : Int)), (24, .slice x2.pa x2.pools.length x2.pcap), (23, .pointer (some ⟨b3, 1, none⟩))] [b3] (by kernel_rfl) (sBlock ?_)))
      have hxl := (hP x2 (List.mem_of_getElem? hx2)).2.2
      refine sLoop (fun (j : Nat) => [(26, .int .i64 (j : Int)), (25, .int .i64 (x2.pools.length : Int)), (24, .slice x2.pa x2.pools.length x2.pcap), (9, .int .i64 (i : Int)), (8, .int .i64 (acts.length : Int)), (7, .slice al acts.length ac), (0, .slice al acts.length ac)]) (fun (j : Nat) => [F, [(b3, .cells #[.int .u8 x2.do_, .slice x2.pa x2.pools.length x2.pcap, .int .i64 x2.a, .int .i64 x2.b, .int .i64 x2.n, .bool x2.contig, .bool x2.top, .slice x2.da x2.data.length x2.dcap] 38)]]) (fun (j : Nat) => j ≤ x2.pools.length ∧ ∀ y ∈ x2.pools.take j, nameOk y = true) (fun (j : Nat) => x2.pools.length - j) 0 ⟨by omega, by simp⟩ (by kernel_rfl) rfl ?_
      rintro j ⟨hj, hJ⟩
      refine sSeq (rRunS [] [(27, .bool (decide ((j : Int) < (x2.pools.length : Int))))] [] (by kernel_rfl) (sSeq ?_))
      refine sIfP (bpD ((j : Int) < (x2.pools.length : Int))) (by kernel_rfl) (fun h3 => ?_) (fun h3 => ?_)
      · refine sSkip (sSeq (sBlock (sSeq (sReg ?_))))
        obtain ⟨b4, ob4, hab4, hcb4⟩ := BS.some (hP x2 (List.mem_of_getElem? hx2)).1 (by omega)
        refine lR (u := .pointer (some ⟨b4, ob4 + j * 1, none⟩)) (runIndexD (T := 35) (E := 9) (n := x2.pools.length) (c := x2.pcap) (b := b4) (o := ob4) (k := 1) (ik := .i64) j hab4 (by kernel_rfl) (by kernel_rfl) (by omega)) (by kernel_rfl) (by kernel_rfl) (by kernel_rfl) ?_
        obtain ⟨x5, hx5⟩ : ∃ x, x2.pools[j]? = some x := ⟨_, List.getElem?_eq_getElem (by (try simp only [List.length_set, List.length_append, List.length_replicate]); omega)⟩
        refine lR (u := .string x5) (runLoadBE1 (f := encStr) (T := 9) (v := .string x5) (fun _ => rfl) hcb4 hx5 rfl (by kernel_rfl)) (by kernel_rfl) (by kernel_rfl) (by kernel_rfl) (lRunS 1 [] [(6, .string x5)] [] (by kernel_rfl) (lEnd (sSeq (rRunS [] [(32, .bool (decide ((x5.size : Int) > (200 : Int)))), (31, .int .i64 (x5.size : Int)), (30, .string x5)] [] (by kernel_rfl) ?_))))
        refine sIfP (bpD ((x5.size : Int) > (200 : Int))) (by kernel_rfl) (fun h4 => ?_) (fun h4 => ?_)
        · refine sSeq (rRunS [] [(2, .bool false)] [] (by kernel_rfl) (sRet ?_))
          exact wRet () (0, 0) [] (.bool false) [.tmp 2] rfl (by kernel_rfl) (congrArg Value.bool (by unfold smallB; rw [all_no hx2 (actOk_no2 (all_no hx5 (decide_eq_false (by omega))))]; rfl)) trivial (fun _ h => h.pick [0] (by kernel_rfl) (by kernel_rfl))
        · refine sSkip (sEnd (sReg (lRunS 1 [] [(33, .int .i64 (IntKind.i64.wrap ((j : Int) + 1)))] [] (by kernel_rfl) (lOv 33 (iw (x := (j : Int) + 1) (by omega)) (by kernel_rfl) (lRunS 1 [] [(26, .int .i64 ((j : Int) + 1))] [] (by kernel_rfl) ?_)))))
          refine lEnd ?_
          exact sAgain (j + 1) ⟨by omega, all_step hJ hx5 (decide_eq_true (by omega))⟩ (by first | omega | (simp only []; omega)) (by kernel_rfl) rfl
      · refine sExit (by kernel_rfl) (sEnd (sReg (lRunS 1 [] [(34, .int .i64 (IntKind.i64.wrap ((i : Int) + 1)))] [] (by kernel_rfl) (lOv 34 (iw (x := (i : Int) + 1) (by omega)) (by kernel_rfl) (lRunS 1 [] [(9, .int .i64 ((i : Int) + 1))] [] (by kernel_rfl) ?_)))))
        refine lEnd ?_
        exact sPick [0] (by kernel_rfl) (by kernel_rfl) (sAgain (i + 1) ⟨by omega, all_step hI hx2 (actOk_yes (by omega) (all_yes (by omega) hJ))⟩ (by first | omega | (simp only []; omega)) (by kernel_rfl) rfl)
  · refine sExit (by kernel_rfl) (sSeq (rRunS [] [(2, .bool (decide ((acts.length : Int) ≤ (60 : Int)))), (37, .bool (decide ((acts.length : Int) ≤ (60 : Int)))), (36, .int .i64 (acts.length : Int)), (35, .slice al acts.length ac)] [] (by kernel_rfl) (sRet ?_)))
    exact wRet () (0, 0) [] (.bool (decide ((acts.length : Int) ≤ (60 : Int)))) [.tmp 2] rfl (by kernel_rfl) (congrArg Value.bool (by unfold smallB; rw [all_yes (by omega) hI, Bool.true_and]; exact decide_eq_decide.2 (by omega))) trivial (fun _ h => h)

theorem c_Pools (W : World) (base : List Blk) (a : Option Addr) (c : Nat) (xs : List PoolS) (hB : BS W encPool a xs) (hn : xs.length ≤ 20) :
    CF Try.prog W base 10 #[.slice a xs.length c] [] (fun d : SD => .slice d.a xs.length d.cap) (fun d => [SD.blk 57 encPool d xs]) (fun d => d.ok 5 xs.length) := by
  intro F
  refine ctIntro Try.func10 rfl rfl (by kernel_rfl) ?_
  refine sSeq (rRunS [] [(2, .slice none 0 0)] [] (by kernel_rfl) (sSeq (rRunS [] [(3, .slice none 0 0)] [] (by kernel_rfl) (sSeq (sSeq ?_)))))
  refine rRunS [] [(8, .int .i64 0), (7, .int .i64 (xs.length : Int)), (6, .slice a xs.length c)] [] (by kernel_rfl) (sBlock ?_)
  refine sNilI ?_
  refine sLoop (fun (x_ : Nat × SD) => match x_ with | (i, d) => [(8, .int .i64 (i : Int)), (7, .int .i64 (xs.length : Int)), (6, .slice a xs.length c), (3, .slice d.a i d.cap), (0, .slice a xs.length c)]) (fun (x_ : Nat × SD) => match x_ with | (i, d) => [F, SD.blk 57 encPool d (xs.take i)]) (fun (x_ : Nat × SD) => match x_ with | (i, d) => i ≤ xs.length ∧ d.ok 5 i) (fun (x_ : Nat × SD) => match x_ with | (i, d) => xs.length - i) (0, ⟨none, 0, []⟩) ⟨by omega, SD.ok_nil 5⟩ (by kernel_rfl) rfl ?_
  rintro ⟨i, d⟩ ⟨hi, hd⟩
  refine sSeq (rRunS [] [(9, .bool (decide ((i : Int) < (xs.length : Int))))] [] (by kernel_rfl) (sSeq ?_))
  refine sIfP (bpD ((i : Int) < (xs.length : Int))) (by kernel_rfl) (fun h1 => ?_) (fun h1 => ?_)
  · refine sSkip (sSeq (sBlock (sSeq (sReg ?_))))
    obtain ⟨b1, ob1, hab1, hcb1⟩ := BS.some hB (by omega)
    refine lR (u := .pointer (some ⟨b1, ob1 + i * 5, none⟩)) (runIndexD (T := 22) (E := 47) (n := xs.length) (c := c) (b := b1) (o := ob1) (k := 5) (ik := .i64) i hab1 (by kernel_rfl) (by kernel_rfl) (by omega)) (by kernel_rfl) (by kernel_rfl) (by kernel_rfl) ?_
    obtain ⟨x2, hx2⟩ : ∃ x, xs[i]? = some x := ⟨_, List.getElem?_eq_getElem (by (try simp only [List.length_set, List.length_append, List.length_replicate]); omega)⟩
    refine lR (u := .agg #[.string x2.name, .int .i64 x2.first, .int .i64 x2.count, .bool x2.general, .bool x2.keep]) (runLoadBS (f := encPool) (T := 47) (k := 5) (fun _ => rfl) hcb1 hx2 (by kernel_rfl) (by kernel_rfl)) (by kernel_rfl) (by kernel_rfl) (by kernel_rfl) ?_
    refine lRunN 2 [(1, 3, 0)] (fun b3 => [(5, .pointer (some ⟨b3, 0, none⟩))]) (fun b3 => []) (fun b3 => .cells #[.string x2.name, .int .i64 x2.first, .int .i64 x2.count, .bool x2.general, .bool x2.keep] 47) (fun b3 => [b3, b3, b3, b3, b3]) (fun b3 => by kernel_rfl) (fun b3 => ?_)
    refine lEnd (sReg ?_)
    refine lRunN 13 [(2, 3, 0), (4, 3, 0), (6, 3, 0), (8, 3, 0), (10, 3, 0)] (fun b4 => [(24, .slice (some ⟨b4, 0, none⟩) 1 1), (23, .agg #[.string x2.name, .int .i64 x2.first, .int .i64 x2.count, .bool x2.general, .bool x2.keep]), (22, .bool x2.keep), (21, .pointer (some ⟨b3, 4, none⟩)), (20, .bool x2.general), (19, .pointer (some ⟨b3, 3, none⟩)), (18, .int .i64 x2.count), (17, .pointer (some ⟨b3, 2, none⟩)), (16, .int .i64 x2.first), (15, .pointer (some ⟨b3, 1, none⟩)), (14, .string x2.name), (13, .pointer (some ⟨b3, 0, none⟩)), (12, .slice d.a i d.cap)]) (fun b4 => []) (fun b4 => .cells #[.string x2.name, .int .i64 x2.first, .int .i64 x2.count, .bool x2.general, .bool x2.keep] 57) (fun b4 => [b3, b3, b3, b3, b3]) (fun b4 => by kernel_rfl) (fun b4 => ?_)
    refine lX (u := fun d' : SD => .slice d'.a (i + 1) d'.cap) (runAppend1 (t := 32) (ty := 32) (b2 := b4) (cs := #[.string x2.name, .int .i64 x2.first, .int .i64 x2.count, .bool x2.general, .bool x2.keep]) (T2 := 57) (k := 5) (e := 57) (by_ := 40) (z := [.string (⟨#[]⟩ : ByteArray), .int .i64 0, .int .i64 0, .bool false, .bool false]) (f := encPool) (fun _ => rfl) d (xs.take i) x2 i 1 3 (by kernel_rfl) (by kernel_rfl) rfl rfl (by kernel_rfl) (List.length_take.trans (by omega)) hd (by kernel_rfl) (by kernel_rfl) rfl (by omega) (by omega)) (by kernel_rfl) (by kernel_rfl) (fun _ => by kernel_rfl) ?_
    rintro d5 okd5
    refine lRunS 1 [] [(3, .slice d5.a (i + 1) d5.cap)] [] (by kernel_rfl) (lEnd (sEnd (sReg (lRunS 1 [] [(26, .int .i64 (IntKind.i64.wrap ((i : Int) + 1)))] [] (by kernel_rfl) (lOv 26 (iw (x := (i : Int) + 1) (by omega)) (by kernel_rfl) ?_)))))
    refine lRunS 1 [] [(8, .int .i64 ((i : Int) + 1))] [] (by kernel_rfl) (lEnd ?_)
    have hti : xs.take (i + 1) = xs.take i ++ [x2] := by rw [List.take_add_one, hx2]; rfl
    refine sRe (its' := [F, SD.blk 57 encPool d5 (xs.take (i + 1)), [(b3, .cells #[.string x2.name, .int .i64 x2.first, .int .i64 x2.count, .bool x2.general, .bool x2.keep] 47)], [(b4, .cells #[.string x2.name, .int .i64 x2.first, .int .i64 x2.count, .bool x2.general, .bool x2.keep] 57)]]) (by rw [hti]; rfl) ?_
    exact sPick [0, 1] (by kernel_rfl) (by kernel_rfl) (sAgain (i + 1, d5) ⟨by omega, okd5⟩ (by first | omega | (simp only []; omega)) (by kernel_rfl) rfl)
  · refine sExit (by kernel_rfl) (sSeq (rRunS [] [(2, .slice d.a i d.cap), (27, .slice d.a i d.cap)] [] (by kernel_rfl) (sRet ?_)))
    have hil : i = xs.length := by omega
    have hil2 : xs.take i = xs := by rw [hil, List.take_length]
    refine wfRe (its' := [F, SD.blk 57 encPool d xs]) (by simp only [hil2]) ?_
    exact wRet d (0, 0) [] (.slice d.a i d.cap) [.tmp 2] rfl (by kernel_rfl) (by rw [hil]) (hil ▸ hd) (fun _ h => h.pick [1, 0] (by kernel_rfl) (by kernel_rfl))

end Go.Proofs.Ytinpojleegfadaa
