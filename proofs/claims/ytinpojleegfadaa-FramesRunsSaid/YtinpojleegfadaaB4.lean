/- The walk of New. -/
import Derived.Test.YtinpojleegfadaaProg
import Derived.Test.YtinpojleegfadaaFu
import Derived.Test.YtinpojleegfadaaB2
import Derived.Test.YtinpojleegfadaaB3
namespace Go.Proofs.Ytinpojleegfadaa
open Go.Sx Go.Sx.Fr
set_option maxRecDepth 100000
set_option linter.unusedSimpArgs false
set_option linter.unusedVariables false
theorem c_New (W : World) (base : List Blk) (s0 : SD) (xs : List PoolS) (hs : s0.ok 5 xs.length) (hn : xs.length ≤ 20) :
    CF Try.prog W base 9 #[.slice s0.a xs.length s0.cap] [SD.blk 57 encPool s0 xs] (fun r : Option (TabS × List FrS) => .tuple #[.pointer (r.map fun q => ⟨q.1.tb, 0, none⟩), .int .i64 (newE xs)])
      (fun r => SD.blk 57 encPool s0 xs :: (match r with | none => [] | some q => tabI q.1 q.2))
      (fun r => (r = none → newE xs ≠ 0) ∧ ∀ T fs, r = some (T, fs) → newE xs = 0 ∧ T.pools = xs ∧ TabOk T fs ∧ NoData fs ∧ ∀ n f, getF fs n = some f → f.refs = 0) := by
  intro F
  refine ctIntro Try.func9 rfl rfl (by kernel_rfl) ?_
  refine sSeq (rRunS [] [(3, .int .i64 0), (2, .pointer none)] [] (by kernel_rfl) (sSeq (sSeq (rRunS [] [(10, .bool (decide ((xs.length : Int) = (0 : Int)))), (9, .int .i64 (xs.length : Int)), (8, .slice s0.a xs.length s0.cap)] [] (by kernel_rfl) ?_))))
  refine sIfP (bpD ((xs.length : Int) = (0 : Int))) (by kernel_rfl) (fun h1 => ?_) (fun h1 => ?_)
  · refine sSeq (rRunS [] [(3, .int .i64 9), (2, .pointer none)] [] (by kernel_rfl) (sRet ?_))
    have hz : newE xs = 9 := by unfold newE; rw [if_pos (by omega)]
    exact wRet none (0, 0) [] (.tuple #[.pointer none, .int .i64 9]) [.tmp 2, .tmp 3] rfl (by kernel_rfl) (by rw [hz]; rfl) ⟨(fun _ => by omega), (fun T fs h => by cases h)⟩ (fun _ h => h)
  · have hn0 : ¬ xs.length = 0 := by omega
    refine sSkip (sSeq (sSeq (rRunS [] [(13, .bool (decide ((xs.length : Int) > (16 : Int)))), (12, .int .i64 (xs.length : Int)), (11, .slice s0.a xs.length s0.cap)] [] (by kernel_rfl) ?_)))
    refine sIfP (bpD ((xs.length : Int) > (16 : Int))) (by kernel_rfl) (fun h2 => ?_) (fun h2 => ?_)
    · refine sSeq (rRunS [] [(3, .int .i64 18), (2, .pointer none)] [] (by kernel_rfl) (sRet ?_))
      have hz : newE xs = 18 := by unfold newE; rw [if_neg (by omega), if_pos (by omega)]
      exact wRet none (0, 0) [] (.tuple #[.pointer none, .int .i64 18]) [.tmp 2, .tmp 3] rfl (by kernel_rfl) (by rw [hz]; rfl) ⟨(fun _ => by omega), (fun T fs h => by cases h)⟩ (fun _ h => h)
    · have hn1 : ¬ xs.length > 16 := by omega
      refine sSkip (sSeq (sReg (lRunS 1 [] [(14, .slice s0.a xs.length s0.cap)] [] (by kernel_rfl) ?_)))
      refine lCallP [0] (c_Clone W base s0 xs hs (by omega) hn) (by kernel_rfl) (by kernel_rfl) (by kernel_rfl) ?_
      rintro d okd
      obtain ⟨pb, pc, pr, rfl, _, _⟩ := SD.ok.some okd (by omega)
      refine lRunN 1 [] (fun b1 => [(16, .map (some b1))]) (fun b1 => []) (fun b1 => .map #[] 0) (fun b1 => []) (fun b1 => by kernel_rfl) (fun b1 => ?_)
      refine lRunN 2 [] (fun b2 => [(18, .agg #[.slice (some ⟨pb, 0, none⟩) xs.length pc, .map (some b1), .map (some b2)]), (17, .map (some b2))]) (fun b2 => []) (fun b2 => .map #[] 0) (fun b2 => []) (fun b2 => by kernel_rfl) (fun b2 => ?_)
      refine lRunN 2 [] (fun b3 => [(4, .pointer (some ⟨b3, 0, none⟩)), (19, .pointer (some ⟨b3, 0, none⟩))]) (fun b3 => []) (fun b3 => .cells #[.slice (some ⟨pb, 0, none⟩) xs.length pc, .map (some b1), .map (some b2)] 63) (fun b3 => []) (fun b3 => by kernel_rfl) (fun b3 => ?_)
      refine lEnd (sSeq (sSeq (rRunS [] [(22, .int .i64 0), (21, .int .i64 (xs.length : Int)), (20, .slice s0.a xs.length s0.cap)] [] (by kernel_rfl) (sBlock ?_))))
      refine sNilI ?_
      refine sLoop (fun (x_ : Nat × List FrS) => match x_ with | (i, g) => [(22, .int .i64 (i : Int)), (21, .int .i64 (xs.length : Int)), (20, .slice s0.a xs.length s0.cap), (4, .pointer (some ⟨b3, 0, none⟩)), (0, .slice s0.a xs.length s0.cap)]) (fun (x_ : Nat × List FrS) => match x_ with | (i, g) => [SD.blk 57 encPool s0 xs, [(pb, .cells (arr encPool xs pr) 57)], F, [(b1, .map (mkM Value.string (nameL (xs.take i) 0)) ((xs.take i).length))], [(b2, .map (mkM (Value.int .i64) (g.map FrS.ent)) g.length)], [(b3, .cells #[.slice (some ⟨pb, 0, none⟩) xs.length pc, .map (some b1), .map (some b2)] 63)], frB g]) (fun (x_ : Nat × List FrS) => match x_ with | (i, g) => i ≤ xs.length ∧ FsNew (xs.take i) g ∧ PoolsB (xs.take i) ∧ goE (xs.take i) (xs.drop i) = goE [] xs) (fun (x_ : Nat × List FrS) => match x_ with | (i, g) => xs.length - i) (0, []) ⟨by omega, fun n => .inl ⟨rfl, by simp⟩, by intro q hq; simp at hq, by simp⟩ (by kernel_rfl) rfl ?_
      rintro ⟨i, g⟩ ⟨hi, hF, hb, hG⟩
      have hlt : (xs.take i).length = i := by rw [List.length_take]; omega
      refine sSeq (rRunS [] [(23, .bool (decide ((i : Int) < (xs.length : Int))))] [] (by kernel_rfl) (sSeq ?_))
      refine sIfP (bpD ((i : Int) < (xs.length : Int))) (by kernel_rfl) (fun h3 => ?_) (fun h3 => ?_)
      · refine sSkip (sSeq (sBlock (sSeq (sReg (lRunS 1 [] [(24, .int .i64 (i : Int))] [] (by kernel_rfl) ?_)))))
        obtain ⟨q4, hq4⟩ := sd_at hs (by omega)
        refine lR (u := .pointer (some ⟨q4, i * 5, none⟩)) (runIndexD0 (T := 32) (E := 57) (n := xs.length) (c := s0.cap) (b := q4) (k := 5) (ik := .i64) i hq4 (by kernel_rfl) (by kernel_rfl) (by omega)) (by kernel_rfl) (by kernel_rfl) (by kernel_rfl) ?_
        obtain ⟨x5, hx5⟩ : ∃ x, xs[i]? = some x := ⟨_, List.getElem?_eq_getElem (by (try simp only [List.length_set, List.length_append, List.length_replicate]); omega)⟩
        refine lR (u := .agg #[.string x5.name, .int .i64 x5.first, .int .i64 x5.count, .bool x5.general, .bool x5.keep]) (runLoadS (f := encPool) (T := 57) (b := q4) (k := 5) (T' := 57) (rest := s0.rest) (fun _ => rfl) (1, 0) (sd_at0 hq4 0 (by kernel_rfl)) hx5 (by kernel_rfl) (by kernel_rfl)) (by kernel_rfl) (by kernel_rfl) (by kernel_rfl) ?_
        refine lRunN 3 [(2, 8, 0)] (fun b6 => [(5, .int .i64 (i : Int)), (6, .pointer (some ⟨b6, 0, none⟩))]) (fun b6 => []) (fun b6 => .cells #[.string x5.name, .int .i64 x5.first, .int .i64 x5.count, .bool x5.general, .bool x5.keep] 57) (fun b6 => [b6, b6, b6, b6, b6]) (fun b6 => by kernel_rfl) (fun b6 => ?_)
        refine lEnd (sSeq (sReg (lRunS 2 [] [(28, .int .i64 (i : Int)), (27, .pointer (some ⟨b3, 0, none⟩))] [] (by kernel_rfl) (lOv (v := .int .i64 (((xs.take i).length : Nat) : Int)) (v0 := .int .i64 (i : Int)) 28 (congrArg (Value.int .i64) (by omega)) (by kernel_rfl) (lRunS 1 [(0, 8, 0)] [(29, .agg #[.string x5.name, .int .i64 x5.first, .int .i64 x5.count, .bool x5.general, .bool x5.keep])] [b6, b6, b6, b6, b6] (by kernel_rfl) ?_)))))
        refine lCallP [5, 1, 3, 4, 6] (c_add W base (⟨b3, pb, pc, pr, xs, b1, [], 0, b2, [], 0⟩ : TabS) (xs.take i) g x5 hF hb (by omega)) (by kernel_rfl) (by kernel_rfl) (by kernel_rfl) ?_
        rintro ⟨pre2, g2⟩ hpost
        refine lRunS 1 [] [(7, .int .i64 (errP (xs.take i) x5))] [] (by kernel_rfl) (lEnd (sSeq (rRunS [] [(32, .bool (!(decide ((errP (xs.take i) x5) = (0 : Int))))), (31, .int .i64 (errP (xs.take i) x5))] [] (by kernel_rfl) ?_)))
        refine sIfPn (bpD ((errP (xs.take i) x5) = (0 : Int))) (by kernel_rfl) (fun h4 => ?_) (fun h4 => ?_)
        · refine sSeq (rRunS [] [(3, .int .i64 (errP (xs.take i) x5)), (2, .pointer none), (33, .int .i64 (errP (xs.take i) x5))] [] (by kernel_rfl) (sRet ?_))
          have hz : newE xs = (errP (xs.take i) x5) := by unfold newE; rw [if_neg hn0, if_neg hn1, ← hG, drop_of hx5]; simp only [goE]; rw [if_pos (by omega)]
          exact wRet none (0, 0) [] (.tuple #[.pointer none, .int .i64 (errP (xs.take i) x5)]) [.tmp 2, .tmp 3] rfl (by kernel_rfl) (by rw [hz]; rfl) ⟨(fun _ => by omega), (fun T fs h => by cases h)⟩ (fun _ h => h.pick [5, 6] (by kernel_rfl) (by kernel_rfl))
        · have hti : xs.take (i + 1) = xs.take i ++ [x5] := by rw [List.take_add_one, hx5]; rfl
          have hpp := hpost (by omega)
          simp only at hpp
          obtain ⟨rfl, hF2⟩ := hpp
          refine sSkip (sEnd (sReg (lRunS 1 [] [(34, .int .i64 (IntKind.i64.wrap ((i : Int) + 1)))] [] (by kernel_rfl) (lOv 34 (iw (x := (i : Int) + 1) (by omega)) (by kernel_rfl) (lRunS 1 [] [(22, .int .i64 ((i : Int) + 1))] [] (by kernel_rfl) ?_)))))
          refine lEnd ?_
          refine sRe (its' := [[(b3, .cells #[.slice (some ⟨pb, 0, none⟩) xs.length pc, .map (some b1), .map (some b2)] 63)], [(pb, .cells (arr encPool xs pr) 57)], [(b1, .map (mkM Value.string (nameL (xs.take (i + 1)) 0)) ((xs.take (i + 1)).length))], [(b2, .map (mkM (Value.int .i64) (g2.map FrS.ent)) g2.length)], frB g2, SD.blk 57 encPool s0 xs, F, [(b6, .cells #[.string x5.name, .int .i64 x5.first, .int .i64 x5.count, .bool x5.general, .bool x5.keep] 57)]]) (by rw [hti]; rfl) ?_
          exact sPick [5, 1, 6, 2, 3, 0, 4] (by kernel_rfl) (by kernel_rfl) (sAgain (i + 1, g2) ⟨by omega, by rw [hti]; exact hF2, by rw [hti]; exact errP_name (by omega) hb, by rw [← hG, drop_of hx5]; simp only [goE]; rw [if_neg (by omega), hti]⟩ (by first | omega | (simp only []; omega)) (by kernel_rfl) rfl)
      · refine sExit (by kernel_rfl) (sSeq (rRunS [] [(3, .int .i64 0), (2, .pointer (some ⟨b3, 0, none⟩)), (35, .pointer (some ⟨b3, 0, none⟩))] [] (by kernel_rfl) (sRet ?_)))
        have hti2 : xs.take i = xs := List.take_of_length_le (by omega)
        have hz : newE xs = 0 := by unfold newE; rw [if_neg hn0, if_neg hn1, ← hG, List.drop_of_length_le (by omega)]; rfl
        obtain ⟨hok, _, _⟩ := newE_ok hz
        have hto := tabOk_new (T := (bld (⟨b3, pb, pc, pr, xs, b1, [], 0, b2, [], 0⟩ : TabS) xs g)) (xs := xs) (g := g) rfl rfl rfl (hti2 ▸ hF) hok (by omega)
        refine wfRe (its' := [SD.blk 57 encPool s0 xs, [(pb, .cells (arr encPool xs pr) 57)], F, [(b1, .map (mkM Value.string (nameL xs 0)) xs.length)], [(b2, .map (mkM (Value.int .i64) (g.map FrS.ent)) g.length)], [(b3, .cells #[.slice (some ⟨pb, 0, none⟩) xs.length pc, .map (some b1), .map (some b2)] 63)], frB g]) (by simp only [hti2]) ?_
        exact wRet (some ((bld (⟨b3, pb, pc, pr, xs, b1, [], 0, b2, [], 0⟩ : TabS) xs g), g)) (0, 0) [] (.tuple #[.pointer (some ⟨b3, 0, none⟩), .int .i64 0]) [.tmp 2, .tmp 3] rfl (by kernel_rfl) (by rw [hz]; rfl) ⟨(fun h => by cases h), (fun T fs h => by cases h; exact ⟨hz, rfl, hto⟩)⟩ (fun _ h => h.pick [0, 5, 1, 3, 4, 6, 2] (by kernel_rfl) (by kernel_rfl))

end Go.Proofs.Ytinpojleegfadaa
