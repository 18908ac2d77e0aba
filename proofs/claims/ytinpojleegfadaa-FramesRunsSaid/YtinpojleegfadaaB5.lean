/- The walks of Check and Equal. -/
import Derived.Test.YtinpojleegfadaaProg
import Derived.Test.YtinpojleegfadaaFu
namespace Go.Proofs.Ytinpojleegfadaa
open Go.Sx Go.Sx.Fr
set_option maxRecDepth 100000
set_option linter.unusedSimpArgs false
set_option linter.unusedVariables false
theorem c_Check (W : World) (base : List Blk) (a : Option Addr) (c : Nat) (xs : List PoolS) (hB : BS W encPool a xs) (hn : xs.length ≤ 20) (hcap : xs.length ≤ c) :
    CP Try.prog W base 7 #[.slice a xs.length c] [] (.int .i64 (newE xs)) := by
  intro F
  refine ctIntro Try.func7 rfl rfl (by kernel_rfl) ?_
  refine sSeq (rRunS [] [(2, .int .i64 0)] [] (by kernel_rfl) (sSeq (sSeq (rRunS [] [(11, .bool (decide ((xs.length : Int) = (0 : Int)))), (10, .int .i64 (xs.length : Int)), (9, .slice a xs.length c)] [] (by kernel_rfl) ?_))))
  refine sIfP (bpD ((xs.length : Int) = (0 : Int))) (by kernel_rfl) (fun h1 => ?_) (fun h1 => ?_)
  · refine sSeq (rRunS [] [(2, .int .i64 9)] [] (by kernel_rfl) (sRet ?_))
    have hz : newE xs = 9 := by unfold newE; rw [if_pos (by omega)]
    exact wRet () (0, 0) [] (.int .i64 9) [.tmp 2] rfl (by kernel_rfl) (by rw [hz]) trivial (fun _ h => h)
  · have hn0 : ¬ xs.length = 0 := by omega
    refine sSkip (sSeq (sSeq (rRunS [] [(14, .bool (decide ((xs.length : Int) > (16 : Int)))), (13, .int .i64 (xs.length : Int)), (12, .slice a xs.length c)] [] (by kernel_rfl) ?_)))
    refine sIfP (bpD ((xs.length : Int) > (16 : Int))) (by kernel_rfl) (fun h2 => ?_) (fun h2 => ?_)
    · refine sSeq (rRunS [] [(2, .int .i64 18)] [] (by kernel_rfl) (sRet ?_))
      have hz : newE xs = 18 := by unfold newE; rw [if_neg (by omega), if_pos (by omega)]
      exact wRet () (0, 0) [] (.int .i64 18) [.tmp 2] rfl (by kernel_rfl) (by rw [hz]) trivial (fun _ h => h)
    · have hn1 : ¬ xs.length > 16 := by omega
      refine sSkip (sSeq (sSeq (rRunS [] [(17, .int .i64 0), (16, .int .i64 (xs.length : Int)), (15, .slice a xs.length c)] [] (by kernel_rfl) (sBlock ?_))))
      refine sLoop (fun (i : Nat) => [(17, .int .i64 (i : Int)), (16, .int .i64 (xs.length : Int)), (15, .slice a xs.length c), (0, .slice a xs.length c)]) (fun (i : Nat) => [F]) (fun (i : Nat) => i ≤ xs.length ∧ PoolsB (xs.take i) ∧ goE (xs.take i) (xs.drop i) = goE [] xs) (fun (i : Nat) => xs.length - i) 0 ⟨by omega, by intro q hq; simp at hq, by simp⟩ (by kernel_rfl) rfl ?_
      rintro i ⟨hi, hb, hG⟩
      refine sSeq (rRunS [] [(18, .bool (decide ((i : Int) < (xs.length : Int))))] [] (by kernel_rfl) (sSeq ?_))
      refine sIfP (bpD ((i : Int) < (xs.length : Int))) (by kernel_rfl) (fun h3 => ?_) (fun h3 => ?_)
      · refine sSkip (sSeq (sBlock (sSeq (sReg (lRunS 1 [] [(19, .int .i64 (i : Int))] [] (by kernel_rfl) ?_)))))
        obtain ⟨b1, ob1, hab1, hcb1⟩ := BS.some hB (by omega)
        refine lR (u := .pointer (some ⟨b1, ob1 + i * 5, none⟩)) (runIndexD (T := 22) (E := 47) (n := xs.length) (c := c) (b := b1) (o := ob1) (k := 5) (ik := .i64) i hab1 (by kernel_rfl) (by kernel_rfl) (by omega)) (by kernel_rfl) (by kernel_rfl) (by kernel_rfl) ?_
        obtain ⟨x2, hx2⟩ : ∃ x, xs[i]? = some x := ⟨_, List.getElem?_eq_getElem (by (try simp only [List.length_set, List.length_append, List.length_replicate]); omega)⟩
        refine lR (u := .agg #[.string x2.name, .int .i64 x2.first, .int .i64 x2.count, .bool x2.general, .bool x2.keep]) (runLoadBS (f := encPool) (T := 47) (k := 5) (fun _ => rfl) hcb1 hx2 (by kernel_rfl) (by kernel_rfl)) (by kernel_rfl) (by kernel_rfl) (by kernel_rfl) ?_
        refine lRunN 3 [(2, 2, 0)] (fun b3 => [(3, .int .i64 (i : Int)), (4, .pointer (some ⟨b3, 0, none⟩))]) (fun b3 => []) (fun b3 => .cells #[.string x2.name, .int .i64 x2.first, .int .i64 x2.count, .bool x2.general, .bool x2.keep] 47) (fun b3 => [b3, b3, b3, b3, b3]) (fun b3 => by kernel_rfl) (fun b3 => ?_)
        refine lEnd (sSeq (sSeq (rRunS [(1, 2, 0)] [(25, .bool (decide ((x2.name.size : Int) > (64 : Int)))), (24, .int .i64 (x2.name.size : Int)), (23, .string x2.name), (22, .pointer (some ⟨b3, 0, none⟩))] [b3] (by kernel_rfl) ?_)))
        refine sIfP (bpD ((x2.name.size : Int) > (64 : Int))) (by kernel_rfl) (fun h4 => ?_) (fun h4 => ?_)
        · have hs1 : x2.name.size > 64 := by omega
          refine sSeq (rRunS [] [(2, .int .i64 21)] [] (by kernel_rfl) (sRet ?_))
          have he : errP (xs.take i) x2 = 21 := by unfold errP; rw [if_pos hs1]
          have hz : newE xs = 21 := by unfold newE; rw [if_neg hn0, if_neg hn1, ← hG, drop_of hx2]; simp only [goE]; rw [if_pos (by omega), he]
          exact wRet () (0, 0) [] (.int .i64 21) [.tmp 2] rfl (by kernel_rfl) (by rw [hz]) trivial (fun _ h => h.pick [0] (by kernel_rfl) (by kernel_rfl))
        · have hs1 : ¬ x2.name.size > 64 := by omega
          refine sSkip (sSeq (sSeq (rRunS [(1, 2, 0)] [(28, .bool (x2.name.toList == (⟨#[]⟩ : ByteArray).toList)), (27, .string x2.name), (26, .pointer (some ⟨b3, 0, none⟩))] [b3] (by kernel_rfl) ?_)))
          refine sIfP (bpS x2.name (⟨#[]⟩ : ByteArray)) (by kernel_rfl) (fun h5 => ?_) (fun h5 => ?_)
          · have hs2 : x2.name.size = 0 := ba_empty.1 h5
            refine sSeq (rRunS [] [(2, .int .i64 9)] [] (by kernel_rfl) (sRet ?_))
            have he : errP (xs.take i) x2 = 9 := by unfold errP; rw [if_neg hs1, if_pos hs2]
            have hz : newE xs = 9 := by unfold newE; rw [if_neg hn0, if_neg hn1, ← hG, drop_of hx2]; simp only [goE]; rw [if_pos (by omega), he]
            exact wRet () (0, 0) [] (.int .i64 9) [.tmp 2] rfl (by kernel_rfl) (by rw [hz]) trivial (fun _ h => h.pick [0] (by kernel_rfl) (by kernel_rfl))
          · have hs2 : ¬ x2.name.size = 0 := fun q => h5 (ba_empty.2 q)
            refine sSkip (sSeq (sSeq (sReg (lRunS 2 [] [(30, .int .i64 (i : Int)), (29, .slice a xs.length c)] [] (by kernel_rfl) (lR (u := .slice a i c) (runSliceHi (T := 22) (E := 47) (n := xs.length) (c := c) (a := a) (ik := .i64) i (by kernel_rfl) (by kernel_rfl) (by omega)) (by kernel_rfl) (by kernel_rfl) (by kernel_rfl) ?_)))))
            refine lRunS 2 [] [(33, .int .i64 0), (32, .int .i64 (i : Int))] [] (by kernel_rfl) (lEnd (sBlock ?_))
            refine sLoop (fun (j : Nat) => [(33, .int .i64 (j : Int)), (32, .int .i64 (i : Int)), (31, .slice a i c), (17, .int .i64 (i : Int)), (16, .int .i64 (xs.length : Int)), (15, .slice a xs.length c), (4, .pointer (some ⟨b3, 0, none⟩)), (3, .int .i64 (i : Int)), (0, .slice a xs.length c)]) (fun (j : Nat) => [F, [(b3, .cells #[.string x2.name, .int .i64 x2.first, .int .i64 x2.count, .bool x2.general, .bool x2.keep] 47)]]) (fun (j : Nat) => j ≤ i ∧ ∀ q ∈ xs.take j, ¬ x2.name = q.name) (fun (j : Nat) => i - j) 0 ⟨by omega, by simp⟩ (by kernel_rfl) rfl ?_
            rintro j ⟨hj, hN⟩
            refine sSeq (rRunS [] [(34, .bool (decide ((j : Int) < (i : Int))))] [] (by kernel_rfl) (sSeq ?_))
            refine sIfP (bpD ((j : Int) < (i : Int))) (by kernel_rfl) (fun h6 => ?_) (fun h6 => ?_)
            · refine sSkip (sSeq (sBlock (sSeq (sReg (lR (u := .pointer (some ⟨b1, ob1 + j * 5, none⟩)) (runIndexD (T := 22) (E := 47) (n := i) (c := c) (b := b1) (o := ob1) (k := 5) (ik := .i64) j hab1 (by kernel_rfl) (by kernel_rfl) (by omega)) (by kernel_rfl) (by kernel_rfl) (by kernel_rfl) ?_)))))
              obtain ⟨x4, hx4⟩ : ∃ x, xs[j]? = some x := ⟨_, List.getElem?_eq_getElem (by (try simp only [List.length_set, List.length_append, List.length_replicate]); omega)⟩
              refine lR (u := .agg #[.string x4.name, .int .i64 x4.first, .int .i64 x4.count, .bool x4.general, .bool x4.keep]) (runLoadBS (f := encPool) (T := 47) (k := 5) (fun _ => rfl) hcb1 hx4 (by kernel_rfl) (by kernel_rfl)) (by kernel_rfl) (by kernel_rfl) (by kernel_rfl) ?_
              refine lRunN 2 [(1, 3, 0)] (fun b5 => [(6, .pointer (some ⟨b5, 0, none⟩))]) (fun b5 => []) (fun b5 => .cells #[.string x4.name, .int .i64 x4.first, .int .i64 x4.count, .bool x4.general, .bool x4.keep] 47) (fun b5 => [b5, b5, b5, b5, b5]) (fun b5 => by kernel_rfl) (fun b5 => ?_)
              refine lEnd (sSeq (rRunS [(1, 2, 0), (3, 3, 0)] [(41, .bool (x2.name.toList == x4.name.toList)), (40, .string x4.name), (39, .pointer (some ⟨b5, 0, none⟩)), (38, .string x2.name), (37, .pointer (some ⟨b3, 0, none⟩))] [b5, b3] (by kernel_rfl) ?_))
              refine sIfP (bpS x2.name x4.name) (by kernel_rfl) (fun h7 => ?_) (fun h7 => ?_)
              · refine sSeq (rRunS [] [(2, .int .i64 38)] [] (by kernel_rfl) (sRet ?_))
                have he : errP (xs.take i) x2 = 38 := by unfold errP; rw [if_neg hs1, if_neg hs2, if_pos (idxOf_has (mem_take hx4 (by omega)) (Eq.symm h7))]
                have hz : newE xs = 38 := by unfold newE; rw [if_neg hn0, if_neg hn1, ← hG, drop_of hx2]; simp only [goE]; rw [if_pos (by omega), he]
                exact wRet () (0, 0) [] (.int .i64 38) [.tmp 2] rfl (by kernel_rfl) (by rw [hz]) trivial (fun _ h => h.pick [0] (by kernel_rfl) (by kernel_rfl))
              · refine sSkip (sEnd (sReg (lRunS 1 [] [(42, .int .i64 (IntKind.i64.wrap ((j : Int) + 1)))] [] (by kernel_rfl) (lOv 42 (iw (x := (j : Int) + 1) (by omega)) (by kernel_rfl) (lRunS 1 [] [(33, .int .i64 ((j : Int) + 1))] [] (by kernel_rfl) ?_)))))
                refine lEnd ?_
                exact sPick [0, 1] (by kernel_rfl) (by kernel_rfl) (sAgain (j + 1) ⟨by omega, take_step hN hx4 h7⟩ (by first | omega | (simp only []; omega)) (by kernel_rfl) rfl)
            · refine sExit (by kernel_rfl) (sSeq (sSeq (sReg (lRunS 4 [(1, 2, 0)] [(46, .bool (decide (x2.count < (1 : Int)))), (45, .bool (decide (x2.count < (1 : Int)))), (44, .int .i64 x2.count), (43, .pointer (some ⟨b3, 2, none⟩))] [b3] (by kernel_rfl) ?_))))
              rcases Classical.em (x2.count < (1 : Int)) with h8 | h8
              · refine lOv (v := .bool true) (v0 := .bool (decide (x2.count < (1 : Int)))) 46 (ovT (bpD (x2.count < (1 : Int))) h8) (by kernel_rfl) (lRunS 22 [] [(68, .bool true), (67, undef), (66, undef), (65, undef), (64, undef), (63, undef), (62, undef), (61, .bool true), (60, .bool true), (59, undef), (58, undef), (57, undef), (56, .bool true), (55, .bool true), (54, undef), (53, undef), (52, undef), (51, .bool true), (50, .bool true), (49, undef), (48, undef), (47, undef)] [] (by kernel_rfl) (lEnd (sIfT (by kernel_rfl) (sSeq (rRunS [] [(2, .int .i64 34)] [] (by kernel_rfl) ?_)))))
                refine sRet ?_
                have hN2 : ∀ q ∈ xs.take i, ¬ x2.name = q.name := (show j = i by omega) ▸ hN
                have he : errP (xs.take i) x2 = 34 := by unfold errP; rw [if_neg hs1, if_neg hs2, if_neg (by rw [idxOf_no hN2]; simp), if_pos (by omega)]
                have hz : newE xs = 34 := by unfold newE; rw [if_neg hn0, if_neg hn1, ← hG, drop_of hx2]; simp only [goE]; rw [if_pos (by omega), he]
                exact wRet () (0, 0) [] (.int .i64 34) [.tmp 2] rfl (by kernel_rfl) (by rw [hz]) trivial (fun _ h => h.pick [0] (by kernel_rfl) (by kernel_rfl))
              · refine lOv (v := .bool false) (v0 := .bool (decide (x2.count < (1 : Int)))) 46 (ovF (bpD (x2.count < (1 : Int))) h8) (by kernel_rfl) (lRunS 5 [(1, 2, 0)] [(51, .bool (decide (x2.count > (4096 : Int)))), (50, .bool (decide (x2.count > (4096 : Int)))), (49, .bool (decide (x2.count > (4096 : Int)))), (48, .int .i64 x2.count), (47, .pointer (some ⟨b3, 2, none⟩))] [b3] (by kernel_rfl) ?_)
                rcases Classical.em (x2.count > (4096 : Int)) with h9 | h9
                · refine lOv (v := .bool true) (v0 := .bool (decide (x2.count > (4096 : Int)))) 51 (ovT (bpD (x2.count > (4096 : Int))) h9) (by kernel_rfl) (lRunS 17 [] [(68, .bool true), (67, undef), (66, undef), (65, undef), (64, undef), (63, undef), (62, undef), (61, .bool true), (60, .bool true), (59, undef), (58, undef), (57, undef), (56, .bool true), (55, .bool true), (54, undef), (53, undef), (52, undef)] [] (by kernel_rfl) (lEnd (sIfT (by kernel_rfl) (sSeq (rRunS [] [(2, .int .i64 34)] [] (by kernel_rfl) ?_)))))
                  refine sRet ?_
                  have hN2 : ∀ q ∈ xs.take i, ¬ x2.name = q.name := (show j = i by omega) ▸ hN
                  have he : errP (xs.take i) x2 = 34 := by unfold errP; rw [if_neg hs1, if_neg hs2, if_neg (by rw [idxOf_no hN2]; simp), if_pos (by omega)]
                  have hz : newE xs = 34 := by unfold newE; rw [if_neg hn0, if_neg hn1, ← hG, drop_of hx2]; simp only [goE]; rw [if_pos (by omega), he]
                  exact wRet () (0, 0) [] (.int .i64 34) [.tmp 2] rfl (by kernel_rfl) (by rw [hz]) trivial (fun _ h => h.pick [0] (by kernel_rfl) (by kernel_rfl))
                · refine lOv (v := .bool false) (v0 := .bool (decide (x2.count > (4096 : Int)))) 51 (ovF (bpD (x2.count > (4096 : Int))) h9) (by kernel_rfl) (lRunS 5 [(1, 2, 0)] [(56, .bool (decide (x2.first < (0 : Int)))), (55, .bool (decide (x2.first < (0 : Int)))), (54, .bool (decide (x2.first < (0 : Int)))), (53, .int .i64 x2.first), (52, .pointer (some ⟨b3, 1, none⟩))] [b3] (by kernel_rfl) ?_)
                  rcases Classical.em (x2.first < (0 : Int)) with h10 | h10
                  · refine lOv (v := .bool true) (v0 := .bool (decide (x2.first < (0 : Int)))) 56 (ovT (bpD (x2.first < (0 : Int))) h10) (by kernel_rfl) (lRunS 12 [] [(68, .bool true), (67, undef), (66, undef), (65, undef), (64, undef), (63, undef), (62, undef), (61, .bool true), (60, .bool true), (59, undef), (58, undef), (57, undef)] [] (by kernel_rfl) (lEnd (sIfT (by kernel_rfl) (sSeq (rRunS [] [(2, .int .i64 34)] [] (by kernel_rfl) ?_)))))
                    refine sRet ?_
                    have hN2 : ∀ q ∈ xs.take i, ¬ x2.name = q.name := (show j = i by omega) ▸ hN
                    have he : errP (xs.take i) x2 = 34 := by unfold errP; rw [if_neg hs1, if_neg hs2, if_neg (by rw [idxOf_no hN2]; simp), if_pos (by omega)]
                    have hz : newE xs = 34 := by unfold newE; rw [if_neg hn0, if_neg hn1, ← hG, drop_of hx2]; simp only [goE]; rw [if_pos (by omega), he]
                    exact wRet () (0, 0) [] (.int .i64 34) [.tmp 2] rfl (by kernel_rfl) (by rw [hz]) trivial (fun _ h => h.pick [0] (by kernel_rfl) (by kernel_rfl))
                  · refine lOv (v := .bool false) (v0 := .bool (decide (x2.first < (0 : Int)))) 56 (ovF (bpD (x2.first < (0 : Int))) h10) (by kernel_rfl) (lRunS 5 [(1, 2, 0)] [(61, .bool (decide (x2.first > (4096 : Int)))), (60, .bool (decide (x2.first > (4096 : Int)))), (59, .bool (decide (x2.first > (4096 : Int)))), (58, .int .i64 x2.first), (57, .pointer (some ⟨b3, 1, none⟩))] [b3] (by kernel_rfl) ?_)
                    rcases Classical.em (x2.first > (4096 : Int)) with h11 | h11
                    · refine lOv (v := .bool true) (v0 := .bool (decide (x2.first > (4096 : Int)))) 61 (ovT (bpD (x2.first > (4096 : Int))) h11) (by kernel_rfl) (lRunS 7 [] [(68, .bool true), (67, undef), (66, undef), (65, undef), (64, undef), (63, undef), (62, undef)] [] (by kernel_rfl) (lEnd (sIfT (by kernel_rfl) (sSeq (rRunS [] [(2, .int .i64 34)] [] (by kernel_rfl) ?_)))))
                      refine sRet ?_
                      have hN2 : ∀ q ∈ xs.take i, ¬ x2.name = q.name := (show j = i by omega) ▸ hN
                      have he : errP (xs.take i) x2 = 34 := by unfold errP; rw [if_neg hs1, if_neg hs2, if_neg (by rw [idxOf_no hN2]; simp), if_pos (by omega)]
                      have hz : newE xs = 34 := by unfold newE; rw [if_neg hn0, if_neg hn1, ← hG, drop_of hx2]; simp only [goE]; rw [if_pos (by omega), he]
                      exact wRet () (0, 0) [] (.int .i64 34) [.tmp 2] rfl (by kernel_rfl) (by rw [hz]) trivial (fun _ h => h.pick [0] (by kernel_rfl) (by kernel_rfl))
                    · refine lOv (v := .bool false) (v0 := .bool (decide (x2.first > (4096 : Int)))) 61 (ovF (bpD (x2.first > (4096 : Int))) h11) (by kernel_rfl) (lRunS 5 [(1, 2, 0), (3, 2, 0)] [(66, .int .i64 (IntKind.i64.wrap (x2.first + x2.count))), (65, .int .i64 x2.count), (64, .pointer (some ⟨b3, 2, none⟩)), (63, .int .i64 x2.first), (62, .pointer (some ⟨b3, 1, none⟩))] [b3, b3] (by kernel_rfl) (lOv 66 (iw (x := x2.first + x2.count) (by omega)) (by kernel_rfl) (lRunS 2 [] [(68, .bool (decide ((x2.first + x2.count) > (4096 : Int)))), (67, .bool (decide ((x2.first + x2.count) > (4096 : Int))))] [] (by kernel_rfl) (lEnd ?_))))
                      refine sIfP (bpD ((x2.first + x2.count) > (4096 : Int))) (by kernel_rfl) (fun h12 => ?_) (fun h12 => ?_)
                      · refine sSeq (rRunS [] [(2, .int .i64 34)] [] (by kernel_rfl) (sRet ?_))
                        have hN2 : ∀ q ∈ xs.take i, ¬ x2.name = q.name := (show j = i by omega) ▸ hN
                        have he : errP (xs.take i) x2 = 34 := by unfold errP; rw [if_neg hs1, if_neg hs2, if_neg (by rw [idxOf_no hN2]; simp), if_pos (by omega)]
                        have hz : newE xs = 34 := by unfold newE; rw [if_neg hn0, if_neg hn1, ← hG, drop_of hx2]; simp only [goE]; rw [if_pos (by omega), he]
                        exact wRet () (0, 0) [] (.int .i64 34) [.tmp 2] rfl (by kernel_rfl) (by rw [hz]) trivial (fun _ h => h.pick [0] (by kernel_rfl) (by kernel_rfl))
                      · refine sSkip (sSeq (sReg (lRunS 2 [] [(70, .int .i64 (i : Int)), (69, .slice a xs.length c)] [] (by kernel_rfl) (lR (u := .slice a i c) (runSliceHi (T := 22) (E := 47) (n := xs.length) (c := c) (a := a) (ik := .i64) i (by kernel_rfl) (by kernel_rfl) (by omega)) (by kernel_rfl) (by kernel_rfl) (by kernel_rfl) (lRunS 2 [] [(73, .int .i64 0), (72, .int .i64 (i : Int))] [] (by kernel_rfl) ?_)))))
                        refine lEnd (sBlock ?_)
                        have hN2 : ∀ q ∈ xs.take i, ¬ x2.name = q.name := (show j = i by omega) ▸ hN
                        refine sLoop (fun (k : Nat) => [(73, .int .i64 (k : Int)), (72, .int .i64 (i : Int)), (71, .slice a i c), (17, .int .i64 (i : Int)), (16, .int .i64 (xs.length : Int)), (15, .slice a xs.length c), (4, .pointer (some ⟨b3, 0, none⟩)), (3, .int .i64 (i : Int)), (0, .slice a xs.length c)]) (fun (k : Nat) => [F, [(b3, .cells #[.string x2.name, .int .i64 x2.first, .int .i64 x2.count, .bool x2.general, .bool x2.keep] 47)]]) (fun (k : Nat) => k ≤ i ∧ ∀ q ∈ xs.take k, hits x2 q = false) (fun (k : Nat) => i - k) 0 ⟨by omega, by simp⟩ (by kernel_rfl) rfl ?_
                        rintro k ⟨hk, hH⟩
                        refine sSeq (rRunS [] [(74, .bool (decide ((k : Int) < (i : Int))))] [] (by kernel_rfl) (sSeq ?_))
                        refine sIfP (bpD ((k : Int) < (i : Int))) (by kernel_rfl) (fun h13 => ?_) (fun h13 => ?_)
                        · refine sSkip (sSeq (sBlock (sSeq (sReg (lR (u := .pointer (some ⟨b1, ob1 + k * 5, none⟩)) (runIndexD (T := 22) (E := 47) (n := i) (c := c) (b := b1) (o := ob1) (k := 5) (ik := .i64) k hab1 (by kernel_rfl) (by kernel_rfl) (by omega)) (by kernel_rfl) (by kernel_rfl) (by kernel_rfl) ?_)))))
                          obtain ⟨x6, hx6⟩ : ∃ x, xs[k]? = some x := ⟨_, List.getElem?_eq_getElem (by (try simp only [List.length_set, List.length_append, List.length_replicate]); omega)⟩
                          refine lR (u := .agg #[.string x6.name, .int .i64 x6.first, .int .i64 x6.count, .bool x6.general, .bool x6.keep]) (runLoadBS (f := encPool) (T := 47) (k := 5) (fun _ => rfl) hcb1 hx6 (by kernel_rfl) (by kernel_rfl)) (by kernel_rfl) (by kernel_rfl) (by kernel_rfl) ?_
                          have hqb := hb x6 (mem_take hx6 (by omega))
                          refine lRunN 2 [(1, 3, 0)] (fun b7 => [(8, .pointer (some ⟨b7, 0, none⟩))]) (fun b7 => []) (fun b7 => .cells #[.string x6.name, .int .i64 x6.first, .int .i64 x6.count, .bool x6.general, .bool x6.keep] 47) (fun b7 => [b7, b7, b7, b7, b7]) (fun b7 => by kernel_rfl) (fun b7 => ?_)
                          refine lEnd (sSeq (sReg (lRunS 7 [(1, 2, 0), (3, 3, 0), (5, 3, 0)] [(83, .int .i64 (IntKind.i64.wrap (x6.first + x6.count))), (82, .int .i64 x6.count), (81, .pointer (some ⟨b7, 2, none⟩)), (80, .int .i64 x6.first), (79, .pointer (some ⟨b7, 1, none⟩)), (78, .int .i64 x2.first), (77, .pointer (some ⟨b3, 1, none⟩))] [b7, b7, b3] (by kernel_rfl) (lOv 83 (iw (x := x6.first + x6.count) (by omega)) (by kernel_rfl) (lRunS 2 [] [(85, .bool (decide (x2.first < (x6.first + x6.count)))), (84, .bool (decide (x2.first < (x6.first + x6.count))))] [] (by kernel_rfl) ?_)))))
                          rcases Classical.em (x2.first < (x6.first + x6.count)) with h14 | h14
                          · refine lOv (v := .bool true) (v0 := .bool (decide (x2.first < (x6.first + x6.count)))) 85 (ovT (bpD (x2.first < (x6.first + x6.count))) h14) (by kernel_rfl) (lRunS 7 [(1, 3, 0), (3, 2, 0), (5, 2, 0)] [(92, .int .i64 (IntKind.i64.wrap (x2.first + x2.count))), (91, .int .i64 x2.count), (90, .pointer (some ⟨b3, 2, none⟩)), (89, .int .i64 x2.first), (88, .pointer (some ⟨b3, 1, none⟩)), (87, .int .i64 x6.first), (86, .pointer (some ⟨b7, 1, none⟩))] [b3, b3, b7] (by kernel_rfl) (lOv 92 (iw (x := x2.first + x2.count) (by omega)) (by kernel_rfl) (lRunS 2 [] [(94, .bool (decide (x6.first < (x2.first + x2.count)))), (93, .bool (decide (x6.first < (x2.first + x2.count))))] [] (by kernel_rfl) (lEnd ?_))))
                            refine sIfP (bpD (x6.first < (x2.first + x2.count))) (by kernel_rfl) (fun h15 => ?_) (fun h15 => ?_)
                            · refine sSeq (rRunS [] [(2, .int .i64 10)] [] (by kernel_rfl) (sRet ?_))
                              have he : errP (xs.take i) x2 = 10 := by unfold errP; rw [if_neg hs1, if_neg hs2, if_neg (by rw [idxOf_no hN2]; simp), if_neg (by omega), if_pos (by rw [List.any_eq_true]; exact ⟨x6, mem_take hx6 (by omega), decide_eq_true (by omega)⟩)]
                              have hz : newE xs = 10 := by unfold newE; rw [if_neg hn0, if_neg hn1, ← hG, drop_of hx2]; simp only [goE]; rw [if_pos (by omega), he]
                              exact wRet () (0, 0) [] (.int .i64 10) [.tmp 2] rfl (by kernel_rfl) (by rw [hz]) trivial (fun _ h => h.pick [0] (by kernel_rfl) (by kernel_rfl))
                            · refine sSkip (sEnd (sReg (lRunS 1 [] [(95, .int .i64 (IntKind.i64.wrap ((k : Int) + 1)))] [] (by kernel_rfl) (lOv 95 (iw (x := (k : Int) + 1) (by omega)) (by kernel_rfl) (lRunS 1 [] [(73, .int .i64 ((k : Int) + 1))] [] (by kernel_rfl) ?_)))))
                              refine lEnd ?_
                              exact sPick [0, 1] (by kernel_rfl) (by kernel_rfl) (sAgain (k + 1) ⟨by omega, take_step hH hx6 (decide_eq_false (by omega))⟩ (by first | omega | (simp only []; omega)) (by kernel_rfl) rfl)
                          · refine lOv (v := .bool false) (v0 := .bool (decide (x2.first < (x6.first + x6.count)))) 85 (ovF (bpD (x2.first < (x6.first + x6.count))) h14) (by kernel_rfl) (lRunS 9 [] [(94, .bool false), (93, undef), (92, undef), (91, undef), (90, undef), (89, undef), (88, undef), (87, undef), (86, undef)] [] (by kernel_rfl) (lEnd (sIfF (by kernel_rfl) (sSkip (sEnd ?_)))))
                            refine sReg (lRunS 1 [] [(95, .int .i64 (IntKind.i64.wrap ((k : Int) + 1)))] [] (by kernel_rfl) (lOv 95 (iw (x := (k : Int) + 1) (by omega)) (by kernel_rfl) (lRunS 1 [] [(73, .int .i64 ((k : Int) + 1))] [] (by kernel_rfl) (lEnd ?_))))
                            exact sPick [0, 1] (by kernel_rfl) (by kernel_rfl) (sAgain (k + 1) ⟨by omega, take_step hH hx6 (decide_eq_false (by omega))⟩ (by first | omega | (simp only []; omega)) (by kernel_rfl) rfl)
                        · refine sExit (by kernel_rfl) (sEnd (sReg (lRunS 1 [] [(96, .int .i64 (IntKind.i64.wrap ((i : Int) + 1)))] [] (by kernel_rfl) (lOv 96 (iw (x := (i : Int) + 1) (by omega)) (by kernel_rfl) (lRunS 1 [] [(17, .int .i64 ((i : Int) + 1))] [] (by kernel_rfl) ?_)))))
                          refine lEnd ?_
                          have hti : xs.take (i + 1) = xs.take i ++ [x2] := by rw [List.take_add_one, hx2]; rfl
                          have he : errP (xs.take i) x2 = 0 := by unfold errP; rw [if_neg hs1, if_neg hs2, if_neg (by rw [idxOf_no hN2]; simp), if_neg (by omega), if_neg (by rw [Bool.not_eq_true, List.any_eq_false]; exact fun q hq => by rw [hH q (by rw [show k = i by omega]; exact hq)]; simp)]
                          exact sPick [0] (by kernel_rfl) (by kernel_rfl) (sAgain (i + 1) ⟨by omega, by rw [hti]; exact errP_name (by omega) hb, by rw [← hG, drop_of hx2]; simp only [goE]; rw [if_neg (by omega), hti]⟩ (by first | omega | (simp only []; omega)) (by kernel_rfl) rfl)
      · refine sExit (by kernel_rfl) (sSeq (rRunS [] [(2, .int .i64 0)] [] (by kernel_rfl) (sRet ?_)))
        have hz : newE xs = 0 := by unfold newE; rw [if_neg hn0, if_neg hn1, ← hG, List.drop_of_length_le (by omega)]; rfl
        exact wRet () (0, 0) [] (.int .i64 0) [.tmp 2] rfl (by kernel_rfl) (by rw [hz]) trivial (fun _ h => h)

theorem c_Equal (W : World) (base : List Blk) (da db : SD) (la lb : List Int) (ha : da.ok 1 la.length) (hb : db.ok 1 lb.length) (hla : la.length < 140737488355328) (hlb : lb.length < 140737488355328) :
    CP Try.prog W base 17 #[.slice da.a la.length da.cap, .slice db.a lb.length db.cap] [SD.blk 3 encInt da la, SD.blk 3 encInt db lb] (.bool (decide (la = lb))) := by
  intro F
  refine ctIntro Try.func17 rfl rfl (by kernel_rfl) ?_
  refine sSeq (rRunS [] [(4, .bool false)] [] (by kernel_rfl) (sSeq (sSeq (rRunS [] [(10, .bool (!(decide ((la.length : Int) = (lb.length : Int))))), (9, .int .i64 (lb.length : Int)), (8, .slice db.a lb.length db.cap), (7, .int .i64 (la.length : Int)), (6, .slice da.a la.length da.cap)] [] (by kernel_rfl) ?_))))
  refine sIfPn (bpD ((la.length : Int) = (lb.length : Int))) (by kernel_rfl) (fun h1 => ?_) (fun h1 => ?_)
  · refine sSeq (rRunS [] [(4, .bool false)] [] (by kernel_rfl) (sRet ?_))
    exact wRet () (0, 0) [] (.bool false) [.tmp 4] rfl (by kernel_rfl) (congrArg Value.bool (decide_eq_false (fun h => by rw [h] at h1; omega)).symm) trivial (fun _ h => h)
  · refine sSkip (sSeq (sSeq (rRunS [] [(13, .int .i64 0), (12, .int .i64 (la.length : Int)), (11, .slice da.a la.length da.cap)] [] (by kernel_rfl) (sBlock ?_))))
    refine sLoop (fun (i : Nat) => [(13, .int .i64 (i : Int)), (12, .int .i64 (la.length : Int)), (11, .slice da.a la.length da.cap), (1, .slice db.a lb.length db.cap), (0, .slice da.a la.length da.cap)]) (fun (i : Nat) => [SD.blk 3 encInt da la, SD.blk 3 encInt db lb, F]) (fun (i : Nat) => i ≤ la.length ∧ la.take i = lb.take i) (fun (i : Nat) => la.length - i) 0 ⟨by omega, by simp⟩ (by kernel_rfl) rfl ?_
    rintro i ⟨hi, hI⟩
    refine sSeq (rRunS [] [(14, .bool (decide ((i : Int) < (la.length : Int))))] [] (by kernel_rfl) (sSeq ?_))
    refine sIfP (bpD ((i : Int) < (la.length : Int))) (by kernel_rfl) (fun h2 => ?_) (fun h2 => ?_)
    · refine sSkip (sSeq (sBlock (sSeq (rRunS [] [(5, .int .i64 (i : Int)), (15, .int .i64 (i : Int))] [] (by kernel_rfl) (sSeq ?_)))))
      refine rQuiet (by kernel_rfl) (by kernel_rfl) (qRun 2 [] [(17, .int .i64 (i : Int)), (16, .slice da.a la.length da.cap)] [] (by kernel_rfl) ?_)
      obtain ⟨q1, hq1⟩ := sd_at ha (by omega)
      refine qR (u := .pointer (some ⟨q1, i * 1, none⟩)) (runIndexD0 (T := 39) (E := 3) (n := la.length) (c := da.cap) (b := q1) (k := 1) (ik := .i64) i hq1 (by kernel_rfl) (by kernel_rfl) (by omega)) (by kernel_rfl) (by kernel_rfl) (by kernel_rfl) ?_
      obtain ⟨x2, hx2⟩ : ∃ x, la[i]? = some x := ⟨_, List.getElem?_eq_getElem (by (try simp only [List.length_set, List.length_append, List.length_replicate]); omega)⟩
      refine qR (u := .int .i64 x2) (runLoadE1 (f := encInt) (T := 3) (b := q1) (T' := 3) (rest := da.rest) (v := .int .i64 x2) (fun _ => rfl) (1, 0) (sd_at0 hq1 0 (by kernel_rfl)) hx2 rfl (by kernel_rfl)) (by kernel_rfl) (by kernel_rfl) (by kernel_rfl) (qRun 2 [] [(21, .int .i64 (i : Int)), (20, .slice db.a lb.length db.cap)] [] (by kernel_rfl) ?_)
      obtain ⟨q3, hq3⟩ := sd_at hb (by omega)
      refine qR (u := .pointer (some ⟨q3, i * 1, none⟩)) (runIndexD0 (T := 39) (E := 3) (n := lb.length) (c := db.cap) (b := q3) (k := 1) (ik := .i64) i hq3 (by kernel_rfl) (by kernel_rfl) (by omega)) (by kernel_rfl) (by kernel_rfl) (by kernel_rfl) ?_
      obtain ⟨x4, hx4⟩ : ∃ x, lb[i]? = some x := ⟨_, List.getElem?_eq_getElem (by (try simp only [List.length_set, List.length_append, List.length_replicate]); omega)⟩
      refine qR (u := .int .i64 x4) (runLoadE1 (f := encInt) (T := 3) (b := q3) (T' := 3) (rest := db.rest) (v := .int .i64 x4) (fun _ => rfl) (2, 0) (sd_at0 hq3 1 (by kernel_rfl)) hx4 rfl (by kernel_rfl)) (by kernel_rfl) (by kernel_rfl) (by kernel_rfl) (qRun 1 [] [(24, .bool (!(decide (x2 = x4))))] [] (by kernel_rfl) (qEnd ?_))
      refine sIfPn (bpD (x2 = x4)) (by kernel_rfl) (fun h3 => ?_) (fun h3 => ?_)
      · refine sSeq (rRunS [] [(4, .bool false)] [] (by kernel_rfl) (sRet ?_))
        exact wRet () (0, 0) [] (.bool false) [.tmp 4] rfl (by kernel_rfl) (congrArg Value.bool (decide_eq_false (fun h => by rw [h] at hx2; rw [hx2] at hx4; exact absurd (Option.some.inj hx4) (by omega))).symm) trivial (fun _ h => h)
      · refine sSkip (sEnd (sReg (lRunS 1 [] [(25, .int .i64 (IntKind.i64.wrap ((i : Int) + 1)))] [] (by kernel_rfl) (lOv 25 (iw (x := (i : Int) + 1) (by omega)) (by kernel_rfl) (lRunS 1 [] [(13, .int .i64 ((i : Int) + 1))] [] (by kernel_rfl) ?_)))))
        refine lEnd ?_
        exact sAgain (i + 1) ⟨by omega, by rw [List.take_add_one, List.take_add_one, hI, hx2, hx4, (show x2 = x4 by omega)]⟩ (by first | omega | (simp only []; omega)) (by kernel_rfl) rfl
    · refine sExit (by kernel_rfl) (sSeq (rRunS [] [(4, .bool true)] [] (by kernel_rfl) (sRet ?_)))
      exact wRet () (0, 0) [] (.bool true) [.tmp 4] rfl (by kernel_rfl) (congrArg Value.bool (by rw [decide_eq_true_iff.2]; rw [← List.take_of_length_le (l := la) (i := i) (by omega), ← List.take_of_length_le (l := lb) (i := i) (by omega)]; exact hI)) trivial (fun _ h => h)

end Go.Proofs.Ytinpojleegfadaa
