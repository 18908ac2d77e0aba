/- The walks of the reference's Put, and of Take, of the program and of the reference. -/
import Derived.Test.YtcobccdeocihbaaProg
import Derived.Test.YtcobccdeocihbaaSl
import Derived.Test.YtcobccdeocihbaaA2
namespace Go.Proofs.Ytcobccdeocihbaa
open Go.Sx
set_option maxRecDepth 100000
set_option linter.unusedSimpArgs false
set_option linter.unusedVariables false
theorem QOk.snoc {q : List Dg} {x : Dg} (h : QOk q) (hx : x.d.ok 1 x.data.length) : QOk (q ++ [x]) := by
  intro y hy
  rcases List.mem_append.1 hy with hy | hy
  · exact h y hy
  · simp only [List.mem_singleton] at hy; subst hy; exact hx

theorem rp_bad {f t : Int} (h : ((((f < (0 : Int)) ∨ (f > (65535 : Int))) ∨ (t < (0 : Int))) ∨ (t > (65535 : Int)))) : ¬ (portB f = true) ∨ ¬ (portB t = true) := by
  rw [portB_iff, portB_iff]; omega
theorem rp_good {f t : Int} (h : ¬ ((((f < (0 : Int)) ∨ (f > (65535 : Int))) ∨ (t < (0 : Int))) ∨ (t > (65535 : Int)))) : ¬ (¬ (portB f = true) ∨ ¬ (portB t = true)) := by
  rw [portB_iff, portB_iff]; omega

theorem c_rput (W : World) (base : List Blk) (rb : Nat) (num lim : Int) (d : SD) (q : List Dg) (n : Nat) (hn : q.length = n) (hd : d.ok 3 q.length) (hq : q.length ≤ 100000) (hlim : (n : Int) ≤ lim) (f t : Int) (da : Option Addr) (dc : Nat) (bs : List UInt8) (hB : BS W encByte da bs) :
    CF Try.prog W base 11 #[.pointer (some ⟨rb, 0, none⟩), .agg #[.int .i64 f, .int .i64 t, .slice da bs.length dc]] [[(rb, .cells #[.int .i64 num, .int .i64 lim, .slice d.a q.length d.cap] 97)], SD.blk 40 encDg d q, QB q] (fun _ : SD × SD => resP (putK num lim n f t bs.length)) (fun x => [[(rb, .cells #[.int .i64 num, .int .i64 lim, .slice x.1.a ((putQ (putK num lim n f t bs.length) q ⟨f, t, bs, x.2⟩).length) x.1.cap] 97)], SD.blk 40 encDg x.1 (putQ (putK num lim n f t bs.length) q ⟨f, t, bs, x.2⟩), QB (putQ (putK num lim n f t bs.length) q ⟨f, t, bs, x.2⟩)]) (fun x => x.1.ok 3 (putQ (putK num lim n f t bs.length) q ⟨f, t, bs, x.2⟩).length ∧ ((putK num lim n f t bs.length) = 4 → x.2.ok 1 bs.length)) := by
  intro F
  refine ctIntro Try.func11 rfl rfl (by kernel_rfl) ?_
  refine sSeq ?_
  refine rRunN [] (fun b1 => [(5, .int .i64 0), (4, .bool false), (3, .pointer (some ⟨b1, 0, none⟩))]) (fun b1 => []) (fun b1 => .cells #[.int .i64 f, .int .i64 t, .slice da bs.length dc] 40) (fun b1 => []) (fun b1 => by kernel_rfl) (fun b1 => ?_)
  refine sSeq (sSeq (sReg (lRunS 4 [(1, 5, 0)] [(9, .bool (decide (f < (0 : Int)))), (8, .bool (decide (f < (0 : Int)))), (7, .int .i64 f), (6, .pointer (some ⟨b1, 0, none⟩))] [b1] (by kernel_rfl) (lShort 4 [(1, 5, 0)] 9 (decide (f < (0 : Int))) 13 true (decide (f > (65535 : Int))) [(12, undef), (11, undef), (10, undef)] [(12, .bool (decide (f > (65535 : Int)))), (11, .int .i64 f), (10, .pointer (some ⟨b1, 0, none⟩))] [] [b1] (by kernel_rfl) (by kernel_rfl) (by kernel_rfl) (by kernel_rfl) (lRunS 1 [] [(14, .bool (bif decide (f < (0 : Int)) then true else decide (f > (65535 : Int))))] [] (by kernel_rfl) ?_)))))
  refine lShort 4 [(1, 5, 0)] 14 (bif decide (f < (0 : Int)) then true else decide (f > (65535 : Int))) 18 true (decide (t < (0 : Int))) [(17, undef), (16, undef), (15, undef)] [(17, .bool (decide (t < (0 : Int)))), (16, .int .i64 t), (15, .pointer (some ⟨b1, 1, none⟩))] [] [b1] (by kernel_rfl) (by kernel_rfl) (by kernel_rfl) (by kernel_rfl) (lRunS 1 [] [(19, .bool (bif bif decide (f < (0 : Int)) then true else decide (f > (65535 : Int)) then true else decide (t < (0 : Int))))] [] (by kernel_rfl) (lShort 4 [(1, 5, 0)] 19 (bif bif decide (f < (0 : Int)) then true else decide (f > (65535 : Int)) then true else decide (t < (0 : Int))) 23 true (decide (t > (65535 : Int))) [(22, undef), (21, undef), (20, undef)] [(22, .bool (decide (t > (65535 : Int)))), (21, .int .i64 t), (20, .pointer (some ⟨b1, 1, none⟩))] [] [b1] (by kernel_rfl) (by kernel_rfl) (by kernel_rfl) (by kernel_rfl) (lEnd ?_)))
  refine sIfP (bpO (bpO (bpO (bpD (f < (0 : Int))) (bpD (f > (65535 : Int)))) (bpD (t < (0 : Int)))) (bpD (t > (65535 : Int)))) (by kernel_rfl) (fun h1 => ?_) (fun h1 => ?_)
  · refine sSeq (rRunS [] [(5, .int .i64 34), (4, .bool false)] [] (by kernel_rfl) (sRet ?_))
    have hK : (putK num lim n f t bs.length) = 0 := by unfold putK; rw [if_pos (rp_bad h1)]
    have hQ : putQ (putK num lim n f t bs.length) q ⟨f, t, bs, sdn⟩ = q := putQ_n (by omega) _ _
    refine wfRe (its' := [[(rb, .cells #[.int .i64 num, .int .i64 lim, .slice d.a ((putQ (putK num lim n f t bs.length) q ⟨f, t, bs, sdn⟩).length) d.cap] 97)], SD.blk 40 encDg d (putQ (putK num lim n f t bs.length) q ⟨f, t, bs, sdn⟩), QB (putQ (putK num lim n f t bs.length) q ⟨f, t, bs, sdn⟩), F, [(b1, .cells #[.int .i64 f, .int .i64 t, .slice da bs.length dc] 40)]]) (by rw [hQ] <;> rfl) ?_
    exact wRet (d, sdn) (0, 0) [] (.tuple #[.bool false, .int .i64 34]) [.tmp 4, .tmp 5] rfl (by kernel_rfl) (by rw [hK]; rfl) ⟨by rw [hQ]; exact hd, fun h => absurd (hK.symm.trans h) (by omega)⟩ (fun _ h => h.pick [0, 1, 2, 3] (by kernel_rfl) (by kernel_rfl))
  · have hP := rp_good h1
    refine sSkip (sSeq (sSeq (rRunS [(1, 5, 0)] [(27, .bool (decide ((bs.length : Int) > (4096 : Int)))), (26, .int .i64 (bs.length : Int)), (25, .slice da bs.length dc), (24, .pointer (some ⟨b1, 2, none⟩))] [b1] (by kernel_rfl) ?_)))
    refine sIfP (bpD ((bs.length : Int) > (4096 : Int))) (by kernel_rfl) (fun h2 => ?_) (fun h2 => ?_)
    · refine sSeq (rRunS [] [(5, .int .i64 20), (4, .bool false)] [] (by kernel_rfl) (sRet ?_))
      have hK : (putK num lim n f t bs.length) = 1 := by unfold putK; rw [if_neg hP, if_pos h2]
      have hQ : putQ (putK num lim n f t bs.length) q ⟨f, t, bs, sdn⟩ = q := putQ_n (by omega) _ _
      refine wfRe (its' := [[(rb, .cells #[.int .i64 num, .int .i64 lim, .slice d.a ((putQ (putK num lim n f t bs.length) q ⟨f, t, bs, sdn⟩).length) d.cap] 97)], SD.blk 40 encDg d (putQ (putK num lim n f t bs.length) q ⟨f, t, bs, sdn⟩), QB (putQ (putK num lim n f t bs.length) q ⟨f, t, bs, sdn⟩), F, [(b1, .cells #[.int .i64 f, .int .i64 t, .slice da bs.length dc] 40)]]) (by rw [hQ] <;> rfl) ?_
      exact wRet (d, sdn) (0, 0) [] (.tuple #[.bool false, .int .i64 20]) [.tmp 4, .tmp 5] rfl (by kernel_rfl) (by rw [hK]; rfl) ⟨by rw [hQ]; exact hd, fun h => absurd (hK.symm.trans h) (by omega)⟩ (fun _ h => h.pick [0, 1, 2, 3] (by kernel_rfl) (by kernel_rfl))
    · have hM := h2
      refine sSkip (sSeq (sSeq (rQuiet (by kernel_rfl) (by kernel_rfl) (qRun 7 [(1, 5, 0), (5, 1, 0)] [(34, .bool (!(decide (t = num)))), (33, .int .i64 num), (32, .pointer (some ⟨rb, 0, none⟩)), (31, .pointer (some ⟨rb, 0, none⟩)), (30, .pointer (some ⟨rb, 0, none⟩)), (29, .int .i64 t), (28, .pointer (some ⟨b1, 1, none⟩))] [rb, b1] (by kernel_rfl) (qEnd ?_)))))
      refine sIfPn (bpD (t = num)) (by kernel_rfl) (fun h3 => ?_) (fun h3 => ?_)
      · refine sSeq (rRunS [] [(5, .int .i64 14), (4, .bool false)] [] (by kernel_rfl) (sRet ?_))
        have hK : (putK num lim n f t bs.length) = 2 := by unfold putK; rw [if_neg hP, if_neg hM, if_pos h3]
        have hQ : putQ (putK num lim n f t bs.length) q ⟨f, t, bs, sdn⟩ = q := putQ_n (by omega) _ _
        refine wfRe (its' := [[(rb, .cells #[.int .i64 num, .int .i64 lim, .slice d.a ((putQ (putK num lim n f t bs.length) q ⟨f, t, bs, sdn⟩).length) d.cap] 97)], SD.blk 40 encDg d (putQ (putK num lim n f t bs.length) q ⟨f, t, bs, sdn⟩), QB (putQ (putK num lim n f t bs.length) q ⟨f, t, bs, sdn⟩), F, [(b1, .cells #[.int .i64 f, .int .i64 t, .slice da bs.length dc] 40)]]) (by rw [hQ] <;> rfl) ?_
        exact wRet (d, sdn) (0, 0) [] (.tuple #[.bool false, .int .i64 14]) [.tmp 4, .tmp 5] rfl (by kernel_rfl) (by rw [hK]; rfl) ⟨by rw [hQ]; exact hd, fun h => absurd (hK.symm.trans h) (by omega)⟩ (fun _ h => h.pick [0, 1, 2, 3] (by kernel_rfl) (by kernel_rfl))
      · have hT : ¬ ¬ t = num := fun e => e h3
        refine sSkip (sSeq (sSeq (rQuiet (by kernel_rfl) (by kernel_rfl) (qRun 10 [(3, 1, 0), (8, 1, 0)] [(44, .bool (decide ((q.length : Int) = lim))), (43, .int .i64 lim), (42, .pointer (some ⟨rb, 1, none⟩)), (41, .pointer (some ⟨rb, 0, none⟩)), (40, .pointer (some ⟨rb, 0, none⟩)), (39, .int .i64 (q.length : Int)), (38, .slice d.a q.length d.cap), (37, .pointer (some ⟨rb, 2, none⟩)), (36, .pointer (some ⟨rb, 0, none⟩)), (35, .pointer (some ⟨rb, 0, none⟩))] [rb, rb] (by kernel_rfl) (qEnd ?_)))))
        refine sIfP (bpD ((q.length : Int) = lim)) (by kernel_rfl) (fun h4 => ?_) (fun h4 => ?_)
        · refine sSeq (rRunS [] [(5, .int .i64 0), (4, .bool false)] [] (by kernel_rfl) (sRet ?_))
          have hK : (putK num lim n f t bs.length) = 3 := by unfold putK; rw [if_neg hP, if_neg hM, if_neg hT, if_pos (by omega)]
          have hQ : putQ (putK num lim n f t bs.length) q ⟨f, t, bs, sdn⟩ = q := putQ_n (by omega) _ _
          refine wfRe (its' := [[(rb, .cells #[.int .i64 num, .int .i64 lim, .slice d.a ((putQ (putK num lim n f t bs.length) q ⟨f, t, bs, sdn⟩).length) d.cap] 97)], SD.blk 40 encDg d (putQ (putK num lim n f t bs.length) q ⟨f, t, bs, sdn⟩), QB (putQ (putK num lim n f t bs.length) q ⟨f, t, bs, sdn⟩), F, [(b1, .cells #[.int .i64 f, .int .i64 t, .slice da bs.length dc] 40)]]) (by rw [hQ] <;> rfl) ?_
          exact wRet (d, sdn) (0, 0) [] (.tuple #[.bool false, .int .i64 0]) [.tmp 4, .tmp 5] rfl (by kernel_rfl) (by rw [hK]; rfl) ⟨by rw [hQ]; exact hd, fun h => absurd (hK.symm.trans h) (by omega)⟩ (fun _ h => h.pick [0, 1, 2, 3] (by kernel_rfl) (by kernel_rfl))
        · have hG : ¬ ((n : Int) ≥ lim) := by have := h4; omega
          refine sSkip (sSeq ?_)
          refine rHeld (by kernel_rfl) (by kernel_rfl) [QB q, F, [(b1, .cells #[.int .i64 f, .int .i64 t, .slice da bs.length dc] 40)]] ?_
          refine hTakes [0, 1, 2, 3, 5, 6, 7, 8, 10, 11] [(6, 3, 0), (8, 3, 0), (11, 3, 0)] [2, 3, 4] [(56, .slice da bs.length dc), (55, .pointer (some ⟨b1, 2, none⟩)), (53, .int .i64 t), (52, .pointer (some ⟨b1, 1, none⟩)), (51, .int .i64 f), (50, .pointer (some ⟨b1, 0, none⟩)), (48, .pointer (some ⟨rb, 2, none⟩)), (47, .pointer (some ⟨rb, 0, none⟩)), (46, .pointer (some ⟨rb, 0, none⟩)), (45, .pointer (some ⟨rb, 0, none⟩))] [b1, b1, b1] (by kernel_rfl) (by kernel_rfl) (by kernel_rfl) (by kernel_rfl) ?_
          refine hAll2 4 9 (by kernel_rfl) ?_ ?_
          · refine hOp 4 [2, 3, 4] (OS.run (1, 0) (.slice d.a q.length d.cap) [[(rb, .cells #[.int .i64 num, .int .i64 lim, .slice d.a q.length d.cap] 97)], SD.blk 40 encDg d q, QB q, F, [(b1, .cells #[.int .i64 f, .int .i64 t, .slice da bs.length dc] 40)]] [rb] (by kernel_rfl) (by kernel_rfl)) (by kernel_rfl) (by kernel_rfl) (fun _ => by kernel_rfl) ?_
            rintro ⟨⟩ -
            refine hOS 9 [2, 3, 4] (OS.run1 (0, 0) (fun b2 => .slice (some ⟨b2, 0, none⟩) 0 0) (fun b2 => [[(rb, .cells #[.int .i64 num, .int .i64 lim, .slice d.a q.length d.cap] 97)], SD.blk 40 encDg d q, QB q, F, [(b1, .cells #[.int .i64 f, .int .i64 t, .slice da bs.length dc] 40)], [(b2, .cells #[] 5)]]) (fun b2 => []) (by kernel_rfl) (fun b2 => by kernel_rfl)) (by kernel_rfl) (by kernel_rfl) (by kernel_rfl) (fun _ => by kernel_rfl) ?_
            rintro b2 -
            refine hOS 12 [2, 3, 4] (OS.x (u := fun d' : SD => .slice d'.a (0 + bs.length) d'.cap) (by kernel_rfl) (by kernel_rfl) (runAppendS (t := 26) (ty := 26) (sa := da) (c2 := dc) (m := bs.length) (k := 1) (e := 5) (by_ := 1) (z := [.int .u8 0]) (f := encByte) (fun _ => rfl) ⟨some ⟨b2, 0, none⟩, 0, []⟩ [] bs 0 5 (by kernel_rfl) (by kernel_rfl) rfl rfl (by kernel_rfl) rfl (SD.ok_lit b2 0) (srcB hB) (fun _ _ _ hu => one_encByte hu) rfl (by omega) (by omega)) (fun _ => by kernel_rfl)) (by kernel_rfl) (by kernel_rfl) (by kernel_rfl) (fun _ => by kernel_rfl) ?_
            rintro d3 okd3
            refine hOv (v := .slice d3.a bs.length d3.cap) (v0 := .slice d3.a (0 + bs.length) d3.cap) 57 (by rw [Nat.zero_add]) (by kernel_rfl) (hTakes [13] [] [2, 3, 4] [(58, .agg #[.int .i64 f, .int .i64 t, .slice d3.a bs.length d3.cap])] [] (by kernel_rfl) (by kernel_rfl) (by kernel_rfl) (by kernel_rfl) ?_)
            refine hOS 14 [2, 3, 4] (OS.run1 (0, 0) (fun b4 => .slice (some ⟨b4, 0, none⟩) 1 1) (fun b4 => [[(rb, .cells #[.int .i64 num, .int .i64 lim, .slice d.a q.length d.cap] 97)], SD.blk 40 encDg d q, QB q, F, [(b1, .cells #[.int .i64 f, .int .i64 t, .slice da bs.length dc] 40)], SD.blk 5 encByte d3 ([] ++ bs), [(b4, .cells #[.int .i64 f, .int .i64 t, .slice d3.a bs.length d3.cap] 40)]]) (fun b4 => []) (by kernel_rfl) (fun b4 => by kernel_rfl)) (by kernel_rfl) (by kernel_rfl) (by kernel_rfl) (fun _ => by kernel_rfl) ?_
            rintro b4 -
            refine hOS 15 [2, 3, 4] (OS.x (u := fun d' : SD => .slice d'.a (q.length + 1) d'.cap) (by kernel_rfl) (by kernel_rfl) (runAppend1 (t := 95) (ty := 95) (b2 := b4) (cs := #[.int .i64 f, .int .i64 t, .slice d3.a bs.length d3.cap]) (T2 := 40) (k := 3) (e := 40) (by_ := 40) (z := [.int .i64 0, .int .i64 0, .slice none 0 0]) (f := encDg) (fun _ => rfl) d q ⟨f, t, bs, d3⟩ q.length 1 6 (by kernel_rfl) (by kernel_rfl) rfl rfl (by kernel_rfl) rfl hd (by kernel_rfl) (by kernel_rfl) rfl (by omega) (by omega)) (fun _ => by kernel_rfl)) (by kernel_rfl) (by kernel_rfl) (by kernel_rfl) (fun _ => by kernel_rfl) ?_
            rintro d5 okd5
            refine hTakes [16, 17] [] [2, 3, 4] [(62, .pointer (some ⟨rb, 2, none⟩)), (61, .pointer (some ⟨rb, 0, none⟩))] [] (by kernel_rfl) (by kernel_rfl) (by kernel_rfl) (by kernel_rfl) ?_
            refine hOS 18 [2, 3, 4] (OS.run (1, 0) undef [[(rb, .cells #[.int .i64 num, .int .i64 lim, .slice d5.a (q.length + 1) d5.cap] 97)], SD.blk 40 encDg d5 (q ++ [⟨f, t, bs, d3⟩]), QB q, F, [(b1, .cells #[.int .i64 f, .int .i64 t, .slice da bs.length dc] 40)], SD.blk 5 encByte d3 ([] ++ bs), [(b4, .cells #[.int .i64 f, .int .i64 t, .slice d3.a bs.length d3.cap] 40)]] [rb] (by kernel_rfl) (by kernel_rfl)) (by kernel_rfl) (by kernel_rfl) (by kernel_rfl) (fun _ => by kernel_rfl) ?_
            rintro ⟨⟩ -
            refine hEnd (by kernel_rfl) (sSeq ?_)
            refine sPick (its' := [[(rb, .cells #[.int .i64 num, .int .i64 lim, .slice d5.a (q.length + 1) d5.cap] 97)], SD.blk 40 encDg d5 (q ++ [⟨f, t, bs, d3⟩]), QB q, SD.blk 5 encByte d3 ([] ++ bs), F]) [0, 1, 2, 5, 3] (by kernel_rfl) (by kernel_rfl) ?_
            have hK : (putK num lim n f t bs.length) = 4 := by unfold putK; rw [if_neg hP, if_neg hM, if_neg hT, if_neg hG]
            have hQ : putQ (putK num lim n f t bs.length) q ⟨f, t, bs, d3⟩ = q ++ [⟨f, t, bs, d3⟩] := putQ_4 hK _ _
            have hql : (q ++ [(⟨f, t, bs, d3⟩ : Dg)]).length = q.length + 1 := by simp
            refine sRe (its' := [[(rb, .cells #[.int .i64 num, .int .i64 lim, .slice d5.a ((putQ (putK num lim n f t bs.length) q ⟨f, t, bs, d3⟩).length) d5.cap] 97)], SD.blk 40 encDg d5 (putQ (putK num lim n f t bs.length) q ⟨f, t, bs, d3⟩), QB (putQ (putK num lim n f t bs.length) q ⟨f, t, bs, d3⟩), F]) (by rw [hQ, QB_snoc, hql] <;> simp) ?_
            refine rRunS [] [(5, .int .i64 0), (4, .bool true)] [] (by kernel_rfl) (sRet ?_)
            exact wRet (d5, d3) (0, 0) [] (.tuple #[.bool true, .int .i64 0]) [.tmp 4, .tmp 5] rfl (by kernel_rfl) (by rw [hK]; rfl) ⟨by rw [hQ, hql]; exact okd5, fun _ => by have h := okd3; rwa [Nat.zero_add] at h⟩ (fun _ h => h)
          · refine hOp 9 [2, 3, 4] (OS.run1 (0, 0) (fun b6 => .slice (some ⟨b6, 0, none⟩) 0 0) (fun b6 => [[(rb, .cells #[.int .i64 num, .int .i64 lim, .slice d.a q.length d.cap] 97)], SD.blk 40 encDg d q, QB q, F, [(b1, .cells #[.int .i64 f, .int .i64 t, .slice da bs.length dc] 40)], [(b6, .cells #[] 5)]]) (fun b6 => []) (by kernel_rfl) (fun b6 => by kernel_rfl)) (by kernel_rfl) (by kernel_rfl) (fun _ => by kernel_rfl) ?_
            rintro b6 -
            refine hAll2 4 12 (by kernel_rfl) ?_ ?_
            · refine hOp 4 [2, 3, 4] (OS.run (1, 0) (.slice d.a q.length d.cap) [[(rb, .cells #[.int .i64 num, .int .i64 lim, .slice d.a q.length d.cap] 97)], SD.blk 40 encDg d q, QB q, F, [(b1, .cells #[.int .i64 f, .int .i64 t, .slice da bs.length dc] 40)], [(b6, .cells #[] 5)]] [rb] (by kernel_rfl) (by kernel_rfl)) (by kernel_rfl) (by kernel_rfl) (fun _ => by kernel_rfl) ?_
              rintro ⟨⟩ -
              refine hOS 12 [2, 3, 4] (OS.x (u := fun d' : SD => .slice d'.a (0 + bs.length) d'.cap) (by kernel_rfl) (by kernel_rfl) (runAppendS (t := 26) (ty := 26) (sa := da) (c2 := dc) (m := bs.length) (k := 1) (e := 5) (by_ := 1) (z := [.int .u8 0]) (f := encByte) (fun _ => rfl) ⟨some ⟨b6, 0, none⟩, 0, []⟩ [] bs 0 5 (by kernel_rfl) (by kernel_rfl) rfl rfl (by kernel_rfl) rfl (SD.ok_lit b6 0) (srcB hB) (fun _ _ _ hu => one_encByte hu) rfl (by omega) (by omega)) (fun _ => by kernel_rfl)) (by kernel_rfl) (by kernel_rfl) (by kernel_rfl) (fun _ => by kernel_rfl) ?_
              rintro d7 okd7
              refine hOv (v := .slice d7.a bs.length d7.cap) (v0 := .slice d7.a (0 + bs.length) d7.cap) 57 (by rw [Nat.zero_add]) (by kernel_rfl) (hTakes [13] [] [2, 3, 4] [(58, .agg #[.int .i64 f, .int .i64 t, .slice d7.a bs.length d7.cap])] [] (by kernel_rfl) (by kernel_rfl) (by kernel_rfl) (by kernel_rfl) ?_)
              refine hOS 14 [2, 3, 4] (OS.run1 (0, 0) (fun b8 => .slice (some ⟨b8, 0, none⟩) 1 1) (fun b8 => [[(rb, .cells #[.int .i64 num, .int .i64 lim, .slice d.a q.length d.cap] 97)], SD.blk 40 encDg d q, QB q, F, [(b1, .cells #[.int .i64 f, .int .i64 t, .slice da bs.length dc] 40)], SD.blk 5 encByte d7 ([] ++ bs), [(b8, .cells #[.int .i64 f, .int .i64 t, .slice d7.a bs.length d7.cap] 40)]]) (fun b8 => []) (by kernel_rfl) (fun b8 => by kernel_rfl)) (by kernel_rfl) (by kernel_rfl) (by kernel_rfl) (fun _ => by kernel_rfl) ?_
              rintro b8 -
              refine hOS 15 [2, 3, 4] (OS.x (u := fun d' : SD => .slice d'.a (q.length + 1) d'.cap) (by kernel_rfl) (by kernel_rfl) (runAppend1 (t := 95) (ty := 95) (b2 := b8) (cs := #[.int .i64 f, .int .i64 t, .slice d7.a bs.length d7.cap]) (T2 := 40) (k := 3) (e := 40) (by_ := 40) (z := [.int .i64 0, .int .i64 0, .slice none 0 0]) (f := encDg) (fun _ => rfl) d q ⟨f, t, bs, d7⟩ q.length 1 6 (by kernel_rfl) (by kernel_rfl) rfl rfl (by kernel_rfl) rfl hd (by kernel_rfl) (by kernel_rfl) rfl (by omega) (by omega)) (fun _ => by kernel_rfl)) (by kernel_rfl) (by kernel_rfl) (by kernel_rfl) (fun _ => by kernel_rfl) ?_
              rintro d9 okd9
              refine hTakes [16, 17] [] [2, 3, 4] [(62, .pointer (some ⟨rb, 2, none⟩)), (61, .pointer (some ⟨rb, 0, none⟩))] [] (by kernel_rfl) (by kernel_rfl) (by kernel_rfl) (by kernel_rfl) ?_
              refine hOS 18 [2, 3, 4] (OS.run (1, 0) undef [[(rb, .cells #[.int .i64 num, .int .i64 lim, .slice d9.a (q.length + 1) d9.cap] 97)], SD.blk 40 encDg d9 (q ++ [⟨f, t, bs, d7⟩]), QB q, F, [(b1, .cells #[.int .i64 f, .int .i64 t, .slice da bs.length dc] 40)], SD.blk 5 encByte d7 ([] ++ bs), [(b8, .cells #[.int .i64 f, .int .i64 t, .slice d7.a bs.length d7.cap] 40)]] [rb] (by kernel_rfl) (by kernel_rfl)) (by kernel_rfl) (by kernel_rfl) (by kernel_rfl) (fun _ => by kernel_rfl) ?_
              rintro ⟨⟩ -
              refine hEnd (by kernel_rfl) (sSeq ?_)
              refine sPick (its' := [[(rb, .cells #[.int .i64 num, .int .i64 lim, .slice d9.a (q.length + 1) d9.cap] 97)], SD.blk 40 encDg d9 (q ++ [⟨f, t, bs, d7⟩]), QB q, SD.blk 5 encByte d7 ([] ++ bs), F]) [0, 1, 2, 5, 3] (by kernel_rfl) (by kernel_rfl) ?_
              have hK : (putK num lim n f t bs.length) = 4 := by unfold putK; rw [if_neg hP, if_neg hM, if_neg hT, if_neg hG]
              have hQ : putQ (putK num lim n f t bs.length) q ⟨f, t, bs, d7⟩ = q ++ [⟨f, t, bs, d7⟩] := putQ_4 hK _ _
              have hql : (q ++ [(⟨f, t, bs, d7⟩ : Dg)]).length = q.length + 1 := by simp
              refine sRe (its' := [[(rb, .cells #[.int .i64 num, .int .i64 lim, .slice d9.a ((putQ (putK num lim n f t bs.length) q ⟨f, t, bs, d7⟩).length) d9.cap] 97)], SD.blk 40 encDg d9 (putQ (putK num lim n f t bs.length) q ⟨f, t, bs, d7⟩), QB (putQ (putK num lim n f t bs.length) q ⟨f, t, bs, d7⟩), F]) (by rw [hQ, QB_snoc, hql] <;> simp) ?_
              refine rRunS [] [(5, .int .i64 0), (4, .bool true)] [] (by kernel_rfl) (sRet ?_)
              exact wRet (d9, d7) (0, 0) [] (.tuple #[.bool true, .int .i64 0]) [.tmp 4, .tmp 5] rfl (by kernel_rfl) (by rw [hK]; rfl) ⟨by rw [hQ, hql]; exact okd9, fun _ => by have h := okd7; rwa [Nat.zero_add] at h⟩ (fun _ h => h)
            · refine hOp 12 [2, 3, 4] (OS.x (u := fun d' : SD => .slice d'.a (0 + bs.length) d'.cap) (by kernel_rfl) (by kernel_rfl) (runAppendS (t := 26) (ty := 26) (sa := da) (c2 := dc) (m := bs.length) (k := 1) (e := 5) (by_ := 1) (z := [.int .u8 0]) (f := encByte) (fun _ => rfl) ⟨some ⟨b6, 0, none⟩, 0, []⟩ [] bs 0 5 (by kernel_rfl) (by kernel_rfl) rfl rfl (by kernel_rfl) rfl (SD.ok_lit b6 0) (srcB hB) (fun _ _ _ hu => one_encByte hu) rfl (by omega) (by omega)) (fun _ => by kernel_rfl)) (by kernel_rfl) (by kernel_rfl) (fun _ => by kernel_rfl) ?_
              rintro d10 okd10
              refine hOv (v := .slice d10.a bs.length d10.cap) (v0 := .slice d10.a (0 + bs.length) d10.cap) 57 (by rw [Nat.zero_add]) (by kernel_rfl) ?_
              refine hTakes [13] [] [2, 3, 4] [(58, .agg #[.int .i64 f, .int .i64 t, .slice d10.a bs.length d10.cap])] [] (by kernel_rfl) (by kernel_rfl) (by kernel_rfl) (by kernel_rfl) ?_
              refine hAll2 4 14 (by kernel_rfl) ?_ ?_
              · refine hOp 4 [2, 3, 4] (OS.run (1, 0) (.slice d.a q.length d.cap) [[(rb, .cells #[.int .i64 num, .int .i64 lim, .slice d.a q.length d.cap] 97)], SD.blk 40 encDg d q, QB q, F, [(b1, .cells #[.int .i64 f, .int .i64 t, .slice da bs.length dc] 40)], SD.blk 5 encByte d10 ([] ++ bs)] [rb] (by kernel_rfl) (by kernel_rfl)) (by kernel_rfl) (by kernel_rfl) (fun _ => by kernel_rfl) ?_
                rintro ⟨⟩ -
                refine hOS 14 [2, 3, 4] (OS.run1 (0, 0) (fun b11 => .slice (some ⟨b11, 0, none⟩) 1 1) (fun b11 => [[(rb, .cells #[.int .i64 num, .int .i64 lim, .slice d.a q.length d.cap] 97)], SD.blk 40 encDg d q, QB q, F, [(b1, .cells #[.int .i64 f, .int .i64 t, .slice da bs.length dc] 40)], SD.blk 5 encByte d10 ([] ++ bs), [(b11, .cells #[.int .i64 f, .int .i64 t, .slice d10.a bs.length d10.cap] 40)]]) (fun b11 => []) (by kernel_rfl) (fun b11 => by kernel_rfl)) (by kernel_rfl) (by kernel_rfl) (by kernel_rfl) (fun _ => by kernel_rfl) ?_
                rintro b11 -
                refine hOS 15 [2, 3, 4] (OS.x (u := fun d' : SD => .slice d'.a (q.length + 1) d'.cap) (by kernel_rfl) (by kernel_rfl) (runAppend1 (t := 95) (ty := 95) (b2 := b11) (cs := #[.int .i64 f, .int .i64 t, .slice d10.a bs.length d10.cap]) (T2 := 40) (k := 3) (e := 40) (by_ := 40) (z := [.int .i64 0, .int .i64 0, .slice none 0 0]) (f := encDg) (fun _ => rfl) d q ⟨f, t, bs, d10⟩ q.length 1 6 (by kernel_rfl) (by kernel_rfl) rfl rfl (by kernel_rfl) rfl hd (by kernel_rfl) (by kernel_rfl) rfl (by omega) (by omega)) (fun _ => by kernel_rfl)) (by kernel_rfl) (by kernel_rfl) (by kernel_rfl) (fun _ => by kernel_rfl) ?_
                rintro d12 okd12
                refine hTakes [16, 17] [] [2, 3, 4] [(62, .pointer (some ⟨rb, 2, none⟩)), (61, .pointer (some ⟨rb, 0, none⟩))] [] (by kernel_rfl) (by kernel_rfl) (by kernel_rfl) (by kernel_rfl) ?_
                refine hOS 18 [2, 3, 4] (OS.run (1, 0) undef [[(rb, .cells #[.int .i64 num, .int .i64 lim, .slice d12.a (q.length + 1) d12.cap] 97)], SD.blk 40 encDg d12 (q ++ [⟨f, t, bs, d10⟩]), QB q, F, [(b1, .cells #[.int .i64 f, .int .i64 t, .slice da bs.length dc] 40)], SD.blk 5 encByte d10 ([] ++ bs), [(b11, .cells #[.int .i64 f, .int .i64 t, .slice d10.a bs.length d10.cap] 40)]] [rb] (by kernel_rfl) (by kernel_rfl)) (by kernel_rfl) (by kernel_rfl) (by kernel_rfl) (fun _ => by kernel_rfl) ?_
                rintro ⟨⟩ -
                refine hEnd (by kernel_rfl) (sSeq ?_)
                refine sPick (its' := [[(rb, .cells #[.int .i64 num, .int .i64 lim, .slice d12.a (q.length + 1) d12.cap] 97)], SD.blk 40 encDg d12 (q ++ [⟨f, t, bs, d10⟩]), QB q, SD.blk 5 encByte d10 ([] ++ bs), F]) [0, 1, 2, 5, 3] (by kernel_rfl) (by kernel_rfl) ?_
                have hK : (putK num lim n f t bs.length) = 4 := by unfold putK; rw [if_neg hP, if_neg hM, if_neg hT, if_neg hG]
                have hQ : putQ (putK num lim n f t bs.length) q ⟨f, t, bs, d10⟩ = q ++ [⟨f, t, bs, d10⟩] := putQ_4 hK _ _
                have hql : (q ++ [(⟨f, t, bs, d10⟩ : Dg)]).length = q.length + 1 := by simp
                refine sRe (its' := [[(rb, .cells #[.int .i64 num, .int .i64 lim, .slice d12.a ((putQ (putK num lim n f t bs.length) q ⟨f, t, bs, d10⟩).length) d12.cap] 97)], SD.blk 40 encDg d12 (putQ (putK num lim n f t bs.length) q ⟨f, t, bs, d10⟩), QB (putQ (putK num lim n f t bs.length) q ⟨f, t, bs, d10⟩), F]) (by rw [hQ, QB_snoc, hql] <;> simp) ?_
                refine rRunS [] [(5, .int .i64 0), (4, .bool true)] [] (by kernel_rfl) (sRet ?_)
                exact wRet (d12, d10) (0, 0) [] (.tuple #[.bool true, .int .i64 0]) [.tmp 4, .tmp 5] rfl (by kernel_rfl) (by rw [hK]; rfl) ⟨by rw [hQ, hql]; exact okd12, fun _ => by have h := okd10; rwa [Nat.zero_add] at h⟩ (fun _ h => h)
              · refine hOp 14 [2, 3, 4] (OS.run1 (0, 0) (fun b13 => .slice (some ⟨b13, 0, none⟩) 1 1) (fun b13 => [[(rb, .cells #[.int .i64 num, .int .i64 lim, .slice d.a q.length d.cap] 97)], SD.blk 40 encDg d q, QB q, F, [(b1, .cells #[.int .i64 f, .int .i64 t, .slice da bs.length dc] 40)], SD.blk 5 encByte d10 ([] ++ bs), [(b13, .cells #[.int .i64 f, .int .i64 t, .slice d10.a bs.length d10.cap] 40)]]) (fun b13 => []) (by kernel_rfl) (fun b13 => by kernel_rfl)) (by kernel_rfl) (by kernel_rfl) (fun _ => by kernel_rfl) ?_
                rintro b13 -
                refine hOS 4 [2, 3, 4] (OS.run (1, 0) (.slice d.a q.length d.cap) [[(rb, .cells #[.int .i64 num, .int .i64 lim, .slice d.a q.length d.cap] 97)], SD.blk 40 encDg d q, QB q, F, [(b1, .cells #[.int .i64 f, .int .i64 t, .slice da bs.length dc] 40)], SD.blk 5 encByte d10 ([] ++ bs), [(b13, .cells #[.int .i64 f, .int .i64 t, .slice d10.a bs.length d10.cap] 40)]] [rb] (by kernel_rfl) (by kernel_rfl)) (by kernel_rfl) (by kernel_rfl) (by kernel_rfl) (fun _ => by kernel_rfl) ?_
                rintro ⟨⟩ -
                refine hOS 15 [2, 3, 4] (OS.x (u := fun d' : SD => .slice d'.a (q.length + 1) d'.cap) (by kernel_rfl) (by kernel_rfl) (runAppend1 (t := 95) (ty := 95) (b2 := b13) (cs := #[.int .i64 f, .int .i64 t, .slice d10.a bs.length d10.cap]) (T2 := 40) (k := 3) (e := 40) (by_ := 40) (z := [.int .i64 0, .int .i64 0, .slice none 0 0]) (f := encDg) (fun _ => rfl) d q ⟨f, t, bs, d10⟩ q.length 1 6 (by kernel_rfl) (by kernel_rfl) rfl rfl (by kernel_rfl) rfl hd (by kernel_rfl) (by kernel_rfl) rfl (by omega) (by omega)) (fun _ => by kernel_rfl)) (by kernel_rfl) (by kernel_rfl) (by kernel_rfl) (fun _ => by kernel_rfl) ?_
                rintro d14 okd14
                refine hTakes [16, 17] [] [2, 3, 4] [(62, .pointer (some ⟨rb, 2, none⟩)), (61, .pointer (some ⟨rb, 0, none⟩))] [] (by kernel_rfl) (by kernel_rfl) (by kernel_rfl) (by kernel_rfl) ?_
                refine hOS 18 [2, 3, 4] (OS.run (1, 0) undef [[(rb, .cells #[.int .i64 num, .int .i64 lim, .slice d14.a (q.length + 1) d14.cap] 97)], SD.blk 40 encDg d14 (q ++ [⟨f, t, bs, d10⟩]), QB q, F, [(b1, .cells #[.int .i64 f, .int .i64 t, .slice da bs.length dc] 40)], SD.blk 5 encByte d10 ([] ++ bs), [(b13, .cells #[.int .i64 f, .int .i64 t, .slice d10.a bs.length d10.cap] 40)]] [rb] (by kernel_rfl) (by kernel_rfl)) (by kernel_rfl) (by kernel_rfl) (by kernel_rfl) (fun _ => by kernel_rfl) ?_
                rintro ⟨⟩ -
                refine hEnd (by kernel_rfl) (sSeq ?_)
                refine sPick (its' := [[(rb, .cells #[.int .i64 num, .int .i64 lim, .slice d14.a (q.length + 1) d14.cap] 97)], SD.blk 40 encDg d14 (q ++ [⟨f, t, bs, d10⟩]), QB q, SD.blk 5 encByte d10 ([] ++ bs), F]) [0, 1, 2, 5, 3] (by kernel_rfl) (by kernel_rfl) ?_
                have hK : (putK num lim n f t bs.length) = 4 := by unfold putK; rw [if_neg hP, if_neg hM, if_neg hT, if_neg hG]
                have hQ : putQ (putK num lim n f t bs.length) q ⟨f, t, bs, d10⟩ = q ++ [⟨f, t, bs, d10⟩] := putQ_4 hK _ _
                have hql : (q ++ [(⟨f, t, bs, d10⟩ : Dg)]).length = q.length + 1 := by simp
                refine sRe (its' := [[(rb, .cells #[.int .i64 num, .int .i64 lim, .slice d14.a ((putQ (putK num lim n f t bs.length) q ⟨f, t, bs, d10⟩).length) d14.cap] 97)], SD.blk 40 encDg d14 (putQ (putK num lim n f t bs.length) q ⟨f, t, bs, d10⟩), QB (putQ (putK num lim n f t bs.length) q ⟨f, t, bs, d10⟩), F]) (by rw [hQ, QB_snoc, hql] <;> simp) ?_
                refine rRunS [] [(5, .int .i64 0), (4, .bool true)] [] (by kernel_rfl) (sRet ?_)
                exact wRet (d14, d10) (0, 0) [] (.tuple #[.bool true, .int .i64 0]) [.tmp 4, .tmp 5] rfl (by kernel_rfl) (by rw [hK]; rfl) ⟨by rw [hQ, hql]; exact okd14, fun _ => by have h := okd10; rwa [Nat.zero_add] at h⟩ (fun _ h => h)

theorem c_take0 (W : World) (base : List Blk) (pb : Nat) (num lim : Int) (se : SE) : CP Try.prog W base 12 #[.pointer (some ⟨pb, 0, none⟩)] [[(pb, .cells #[.int .i64 num, .int .i64 lim, .slice se.a 0 se.cap] 94)], SE.blk 28 encDg se ([] : List Dg), []] (.tuple #[.agg #[.int .i64 0, .int .i64 0, .slice none 0 0], .bool false]) := by
  intro F
  refine ctIntro Try.func12 rfl rfl (by kernel_rfl) ?_
  refine sSeq ?_
  refine rRunN [] (fun b1 => [(3, .bool false), (2, .pointer (some ⟨b1, 0, none⟩))]) (fun b1 => []) (fun b1 => .cells #[.int .i64 0, .int .i64 0, .slice none 0 0] 28) (fun b1 => []) (fun b1 => by kernel_rfl) (fun b1 => ?_)
  refine sSeq (sSeq (rRunS [(6, 1, 0)] [(14, .bool true), (13, .bool true), (12, .int .i64 0), (11, .slice se.a 0 se.cap), (10, .pointer (some ⟨pb, 2, none⟩)), (9, .pointer (some ⟨pb, 0, none⟩)), (8, .pointer (some ⟨pb, 0, none⟩)), (7, .bool false), (6, .bool false), (5, .pointer (some ⟨pb, 0, none⟩))] [pb] (by kernel_rfl) (sIfT (by kernel_rfl) (sSeq (rRunU [(1, 5, 0)] [(3, .bool false), (15, .agg #[.int .i64 0, .int .i64 0, .slice none 0 0])] [(4, [(b1, .cells #[.int .i64 0, .int .i64 0, .slice none 0 0] 28)])] [b1, b1, b1] (by kernel_rfl) ?_)))))
  refine sRet ?_
  exact wRet () (5, 0) [b1, b1, b1] (.tuple #[.agg #[.int .i64 0, .int .i64 0, .slice none 0 0], .bool false]) [.cell 2 28, .tmp 3] rfl (by kernel_rfl) rfl trivial (fun _ h => h.pick [0, 1, 2, 3] (by kernel_rfl) (by kernel_rfl))

theorem c_rtake0 (W : World) (base : List Blk) (rb : Nat) (num lim : Int) (d : SD) : CP Try.prog W base 13 #[.pointer (some ⟨rb, 0, none⟩)] [[(rb, .cells #[.int .i64 num, .int .i64 lim, .slice d.a 0 d.cap] 97)], SD.blk 40 encDg d ([] : List Dg), []] (.tuple #[.agg #[.int .i64 0, .int .i64 0, .slice none 0 0], .bool false]) := by
  intro F
  refine ctIntro Try.func13 rfl rfl (by kernel_rfl) ?_
  refine sSeq ?_
  refine rRunN [] (fun b1 => [(3, .bool false), (2, .pointer (some ⟨b1, 0, none⟩))]) (fun b1 => []) (fun b1 => .cells #[.int .i64 0, .int .i64 0, .slice none 0 0] 40) (fun b1 => []) (fun b1 => by kernel_rfl) (fun b1 => ?_)
  refine sSeq (sSeq (rRunS [(3, 1, 0)] [(10, .bool true), (9, .int .i64 0), (8, .slice d.a 0 d.cap), (7, .pointer (some ⟨rb, 2, none⟩)), (6, .pointer (some ⟨rb, 0, none⟩)), (5, .pointer (some ⟨rb, 0, none⟩))] [rb] (by kernel_rfl) (sIfT (by kernel_rfl) (sSeq (rRunU [(1, 5, 0)] [(3, .bool false), (11, .agg #[.int .i64 0, .int .i64 0, .slice none 0 0])] [(4, [(b1, .cells #[.int .i64 0, .int .i64 0, .slice none 0 0] 40)])] [b1, b1, b1] (by kernel_rfl) ?_)))))
  refine sRet ?_
  exact wRet () (5, 0) [b1, b1, b1] (.tuple #[.agg #[.int .i64 0, .int .i64 0, .slice none 0 0], .bool false]) [.cell 2 40, .tmp 3] rfl (by kernel_rfl) rfl trivial (fun _ h => h.pick [0, 1, 2, 3] (by kernel_rfl) (by kernel_rfl))

theorem c_take1 (W : World) (base : List Blk) (pb : Nat) (num lim : Int) (se : SE) (x : Dg) (q : List Dg) (hse : se.ok 3 (q.length + 1)) (hq : q.length ≤ 100000) :
    CF Try.prog W base 12 #[.pointer (some ⟨pb, 0, none⟩)] [[(pb, .cells #[.int .i64 num, .int .i64 lim, .slice se.a (q.length + 1) se.cap] 94)], SE.blk 28 encDg se (x :: q), QB (x :: q)] (fun _ : SE => .tuple #[.agg #[.int .i64 x.frm, .int .i64 x.to, .slice x.d.a x.data.length x.d.cap], .bool true]) (fun s => [[(pb, .cells #[.int .i64 num, .int .i64 lim, .slice s.a q.length s.cap] 94)], SE.blk 28 encDg s q, SD.blk 5 encByte x.d x.data, QB q]) (fun s => s.ok 3 q.length) := by
  intro F
  refine ctIntro Try.func12 rfl rfl (by kernel_rfl) ?_
  refine sSeq ?_
  obtain ⟨b, c, dd, r, rfl, hc, hr⟩ := hse.some (by omega)
  refine sRe (its' := [[(pb, .cells #[.int .i64 num, .int .i64 lim, .slice (some ⟨b, dd.length, none⟩) (q.length + 1) c] 94)], [(b, .cells (arrE encDg dd (x :: q) r) 28)], SD.blk 5 encByte x.d x.data, QB q, F]) (by rw [QB_cons]; simp [SE.blk]) ?_
  refine rRunN [] (fun b1 => [(3, .bool false), (2, .pointer (some ⟨b1, 0, none⟩))]) (fun b1 => []) (fun b1 => .cells #[.int .i64 0, .int .i64 0, .slice none 0 0] 28) (fun b1 => []) (fun b1 => by kernel_rfl) (fun b1 => ?_)
  refine sSeq (sSeq (sReg (lRunS 9 [(6, 1, 0)] [(13, .bool (decide ((((q.length + 1) : Nat) : Int) = (0 : Int)))), (12, .int .i64 (((q.length + 1) : Nat) : Int)), (11, .slice (some ⟨b, dd.length, none⟩) (q.length + 1) c), (10, .pointer (some ⟨pb, 2, none⟩)), (9, .pointer (some ⟨pb, 0, none⟩)), (8, .pointer (some ⟨pb, 0, none⟩)), (7, .bool false), (6, .bool false), (5, .pointer (some ⟨pb, 0, none⟩))] [pb] (by kernel_rfl) (lOv (v := .bool false) (v0 := .bool (decide ((((q.length + 1) : Nat) : Int) = (0 : Int)))) 13 (ovF (bpD ((((q.length + 1) : Nat) : Int) = (0 : Int))) (by omega)) (by kernel_rfl) (lRunS 1 [] [(14, .bool false)] [] (by kernel_rfl) ?_)))))
  refine lEnd (sIfF (by kernel_rfl) (sSkip (sSeq (sReg (lRunS 4 [(3, 1, 0)] [(19, .slice (some ⟨b, dd.length, none⟩) (q.length + 1) c), (18, .pointer (some ⟨pb, 2, none⟩)), (17, .pointer (some ⟨pb, 0, none⟩)), (16, .pointer (some ⟨pb, 0, none⟩))] [pb] (by kernel_rfl) ?_)))))
  refine lR (u := .pointer (some ⟨b, dd.length + 0 * 3, none⟩)) (runIndex (T := 22) (E := 28) (n := (q.length + 1)) (c := c) (b := b) (o := dd.length) (k := 3) (ik := .i64) 0 (by kernel_rfl) (by kernel_rfl) (by omega)) (by kernel_rfl) (by kernel_rfl) (by kernel_rfl) (lR (u := .agg #[.int .i64 x.frm, .int .i64 x.to, .slice x.d.a x.data.length x.d.cap]) (runHeadE (f := encDg) (k := 3) (fun _ => rfl) (T := 28) (T' := 28) b dd x q r 1 (by kernel_rfl) (by kernel_rfl) (by kernel_rfl)) (by kernel_rfl) (by kernel_rfl) (by kernel_rfl) ?_)
  refine lRunN 2 [(1, 7, 0)] (fun b2 => [(4, .pointer (some ⟨b2, 0, none⟩))]) (fun b2 => []) (fun b2 => .cells #[.int .i64 x.frm, .int .i64 x.to, .slice x.d.a x.data.length x.d.cap] 28) (fun b2 => [b2, b2, b2]) (fun b2 => by kernel_rfl) (fun b2 => ?_)
  refine lEnd (sSeq (sReg (lRunS 5 [(4, 1, 0)] [(26, .slice (some ⟨b, dd.length, none⟩) (q.length + 1) c), (25, .pointer (some ⟨pb, 2, none⟩)), (24, .pointer (some ⟨pb, 0, none⟩)), (23, .pointer (some ⟨pb, 0, none⟩)), (22, .pointer (some ⟨pb, 0, none⟩))] [pb] (by kernel_rfl) ?_)))
  refine lX (u := fun d' : SE => .slice d'.a q.length d'.cap) (runTailE (f := encDg) (k := 3) (fun _ => rfl) (T := 22) (E := 28) ⟨some ⟨b, dd.length, none⟩, c, dd, r⟩ x q q.length 1 (ik := .i64) (by kernel_rfl) (by kernel_rfl) (by kernel_rfl) rfl hse) (by kernel_rfl) (by kernel_rfl) (fun _ => by kernel_rfl) ?_
  rintro se2 hse2
  refine lRunU 3 [(2, 1, 0)] [(29, .pointer (some ⟨pb, 2, none⟩)), (28, .pointer (some ⟨pb, 0, none⟩))] [(0, [(pb, .cells #[.int .i64 num, .int .i64 lim, .slice se2.a q.length se2.cap] 94)])] [pb] (by kernel_rfl) (lEnd (sSeq (rRunU [(0, 7, 0), (1, 6, 0)] [(3, .bool true), (30, .agg #[.int .i64 x.frm, .int .i64 x.to, .slice x.d.a x.data.length x.d.cap])] [(5, [(b1, .cells #[.int .i64 x.frm, .int .i64 x.to, .slice x.d.a x.data.length x.d.cap] 28)])] [b1, b1, b1, b2, b2, b2] (by kernel_rfl) (sRet ?_))))
  exact wRet se2 (6, 0) [b1, b1, b1] (.tuple #[.agg #[.int .i64 x.frm, .int .i64 x.to, .slice x.d.a x.data.length x.d.cap], .bool true]) [.cell 2 28, .tmp 3] rfl (by kernel_rfl) rfl hse2 (fun _ h => h.pick [0, 1, 2, 3, 4] (by kernel_rfl) (by kernel_rfl))

theorem hd_get {x : Dg} {q : List Dg} {r : List Value} {t : Nat} {u : Value} (h : (encDg x)[t]? = some u) : (arr encDg (x :: q) r)[0 + t]? = some u := by
  simp only [arr, List.getElem?_toArray, List.flatMap_cons, Nat.zero_add]
  rw [List.append_assoc, List.getElem?_append_left (List.getElem?_eq_some_iff.1 h).1]; exact h

theorem c_rtake1 (W : World) (base : List Blk) (rb : Nat) (num lim : Int) (d : SD) (x : Dg) (q : List Dg) (hd : d.ok 3 (q.length + 1)) (hq : q.length ≤ 100000) :
    CF Try.prog W base 13 #[.pointer (some ⟨rb, 0, none⟩)] [[(rb, .cells #[.int .i64 num, .int .i64 lim, .slice d.a (q.length + 1) d.cap] 97)], SD.blk 40 encDg d (x :: q), QB (x :: q)] (fun _ : SD => .tuple #[.agg #[.int .i64 x.frm, .int .i64 x.to, .slice x.d.a x.data.length x.d.cap], .bool true]) (fun s => [[(rb, .cells #[.int .i64 num, .int .i64 lim, .slice s.a q.length s.cap] 97)], SD.blk 40 encDg s q, SD.blk 5 encByte x.d x.data, QB q]) (fun s => s.ok 3 q.length) := by
  intro F
  refine ctIntro Try.func13 rfl rfl (by kernel_rfl) ?_
  refine sSeq ?_
  obtain ⟨b, c, r, rfl, hc, hr⟩ := hd.some (by omega)
  refine sRe (its' := [[(rb, .cells #[.int .i64 num, .int .i64 lim, .slice (some ⟨b, 0, none⟩) (q.length + 1) c] 97)], [(b, .cells (arr encDg (x :: q) r) 40)], SD.blk 5 encByte x.d x.data, QB q, F]) (by rw [QB_cons]; simp [SD.blk]) ?_
  refine rRunN [] (fun b1 => [(3, .bool false), (2, .pointer (some ⟨b1, 0, none⟩))]) (fun b1 => []) (fun b1 => .cells #[.int .i64 0, .int .i64 0, .slice none 0 0] 40) (fun b1 => []) (fun b1 => by kernel_rfl) (fun b1 => ?_)
  refine sSeq (sSeq (sReg (lRunS 6 [(3, 1, 0)] [(10, .bool (decide ((((q.length + 1) : Nat) : Int) = (0 : Int)))), (9, .int .i64 (((q.length + 1) : Nat) : Int)), (8, .slice (some ⟨b, 0, none⟩) (q.length + 1) c), (7, .pointer (some ⟨rb, 2, none⟩)), (6, .pointer (some ⟨rb, 0, none⟩)), (5, .pointer (some ⟨rb, 0, none⟩))] [rb] (by kernel_rfl) (lOv (v := .bool false) (v0 := .bool (decide ((((q.length + 1) : Nat) : Int) = (0 : Int)))) 10 (ovF (bpD ((((q.length + 1) : Nat) : Int) = (0 : Int))) (by omega)) (by kernel_rfl) (lEnd ?_)))))
  refine sIfF (by kernel_rfl) (sSkip (sSeq (sReg (lRunS 4 [(3, 1, 0)] [(15, .slice (some ⟨b, 0, none⟩) (q.length + 1) c), (14, .pointer (some ⟨rb, 2, none⟩)), (13, .pointer (some ⟨rb, 0, none⟩)), (12, .pointer (some ⟨rb, 0, none⟩))] [rb] (by kernel_rfl) (lR (u := .pointer (some ⟨b, 0 * 3, none⟩)) (runIndex0 (T := 95) (E := 40) (n := (q.length + 1)) (c := c) (b := b) (k := 3) (ik := .i64) 0 (by kernel_rfl) (by kernel_rfl) (by omega)) (by kernel_rfl) (by kernel_rfl) (by kernel_rfl) ?_)))))
  refine lR (u := .agg #[.int .i64 x.frm, .int .i64 x.to, .slice x.d.a x.data.length x.d.cap]) (runLoadA (T := 40) (b := b) (o := 0) (c := arr encDg (x :: q) r) (T' := 40) (fr := (0, 0)) (encDg x) (2, 0) (by kernel_rfl) (fun t u h => hd_get h) (by kernel_rfl) (by kernel_rfl)) (by kernel_rfl) (by kernel_rfl) (by kernel_rfl) ?_
  refine lRunN 2 [(1, 7, 0)] (fun b2 => [(4, .pointer (some ⟨b2, 0, none⟩))]) (fun b2 => []) (fun b2 => .cells #[.int .i64 x.frm, .int .i64 x.to, .slice x.d.a x.data.length x.d.cap] 40) (fun b2 => [b2, b2, b2]) (fun b2 => by kernel_rfl) (fun b2 => ?_)
  refine lEnd (sSeq (sReg ?_))
  refine lRunN 6 [(5, 1, 0)] (fun b3 => [(23, .slice (some ⟨b, 0, none⟩) (q.length + 1) c), (22, .pointer (some ⟨rb, 2, none⟩)), (21, .pointer (some ⟨rb, 0, none⟩)), (20, .pointer (some ⟨rb, 0, none⟩)), (19, .slice (some ⟨b3, 0, none⟩) 0 0), (18, .pointer (some ⟨rb, 0, none⟩))]) (fun b3 => []) (fun b3 => .cells #[] 40) (fun b3 => [rb]) (fun b3 => by kernel_rfl) (fun b3 => ?_)
  refine lR (u := .slice (some ⟨b, (if c = 1 then 0 else 0 + 1 * 3), none⟩) (q.length + 1 - 1) (c - 1)) (runSliceLoG (T := 95) (E := 40) (n := q.length + 1) (c := c) (b := b) (o := 0) (k := 3) (ik := .i64) 1 (by kernel_rfl) (by kernel_rfl) (by omega) hc) (by kernel_rfl) (by kernel_rfl) (by kernel_rfl) ?_
  refine lX (u := fun d' : SD => .slice d'.a (0 + (q.length + 1 - 1)) d'.cap) (runAppendS (t := 95) (ty := 95) (sa := some ⟨b, if c = 1 then 0 else 0 + 1 * 3, none⟩) (c2 := c - 1) (m := q.length + 1 - 1) (k := 3) (e := 40) (by_ := 40) (z := [.int .i64 0, .int .i64 0, .slice none 0 0]) (f := encDg) (fun _ => rfl) ⟨some ⟨b3, 0, none⟩, 0, []⟩ [] q 0 7 (by kernel_rfl) (by kernel_rfl) rfl rfl (by kernel_rfl) rfl (SD.ok_lit b3 0) (srcTail (T := 40) (x := x) (r := r) 1 (by kernel_rfl) (by omega) (by omega)) (fun _ _ _ hu => one_encDg hu) (by omega) (by omega) (by omega)) (by kernel_rfl) (by kernel_rfl) (fun _ => by kernel_rfl) ?_
  rintro d2 hd2
  refine lRunU 3 [(2, 1, 0)] [(27, .pointer (some ⟨rb, 2, none⟩)), (26, .pointer (some ⟨rb, 0, none⟩))] [(0, [(rb, .cells #[.int .i64 num, .int .i64 lim, .slice d2.a (0 + (q.length + 1 - 1)) d2.cap] 97)])] [rb] (by kernel_rfl) (lEnd (sSeq (rRunU [(0, 7, 0), (1, 6, 0)] [(3, .bool true), (28, .agg #[.int .i64 x.frm, .int .i64 x.to, .slice x.d.a x.data.length x.d.cap])] [(5, [(b1, .cells #[.int .i64 x.frm, .int .i64 x.to, .slice x.d.a x.data.length x.d.cap] 40)])] [b1, b1, b1, b2, b2, b2] (by kernel_rfl) (sRet ?_))))
  have hn2 : 0 + (q.length + 1 - 1) = q.length := by omega
  refine wfRe (its' := [[(rb, .cells #[.int .i64 num, .int .i64 lim, .slice d2.a q.length d2.cap] 97)], [(b, .cells (arr encDg (x :: q) r) 40)], SD.blk 5 encByte x.d x.data, QB q, F, [(b1, .cells #[.int .i64 x.frm, .int .i64 x.to, .slice x.d.a x.data.length x.d.cap] 40)], [(b2, .cells #[.int .i64 x.frm, .int .i64 x.to, .slice x.d.a x.data.length x.d.cap] 40)], SD.blk 40 encDg d2 q]) (by rw [hn2] <;> rfl) ?_
  exact wRet d2 (6, 0) [b1, b1, b1] (.tuple #[.agg #[.int .i64 x.frm, .int .i64 x.to, .slice x.d.a x.data.length x.d.cap], .bool true]) [.cell 2 40, .tmp 3] rfl (by kernel_rfl) rfl (hn2 ▸ hd2) (fun _ h => h.pick [0, 7, 2, 3, 4] (by kernel_rfl) (by kernel_rfl))

end Go.Proofs.Ytcobccdeocihbaa
