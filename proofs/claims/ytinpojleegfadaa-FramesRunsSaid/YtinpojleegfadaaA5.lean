/- The walks of Reverse, Index and Contains. -/
import Derived.Test.YtinpojleegfadaaProg
import Derived.Test.YtinpojleegfadaaFr
set_option linter.unusedVariables false
set_option linter.unusedSimpArgs false
namespace Go.Proofs.Ytinpojleegfadaa
open Go.Sx Go.Sx.Fr
set_option maxRecDepth 100000
set_option linter.unusedSimpArgs false
/-- The first i and the last i are swapped. -/
def revI (xs : List Int) (i : Nat) : List Int := xs.reverse.take i ++ (xs.drop i).take (xs.length - i - i) ++ xs.reverse.drop (xs.length - i)
theorem revI_get (xs : List Int) (i j : Nat) (hi : i + i ≤ xs.length) (hj : j < xs.length) : (revI xs i)[j]? = if j < i ∨ xs.length - i ≤ j then xs[xs.length - 1 - j]? else xs[j]? := by
  have h1 : (xs.reverse.take i).length = min i xs.length := by simp
  have h2 : ((xs.drop i).take (xs.length - i - i)).length = min (xs.length - i - i) (xs.length - i) := by simp
  unfold revI
  by_cases ha : j < i
  · rw [if_pos (.inl ha), List.append_assoc, List.getElem?_append_left (by omega), List.getElem?_take, if_pos ha, List.getElem?_reverse hj]
  · by_cases hb : xs.length - i ≤ j
    · rw [if_pos (.inr hb), List.getElem?_append_right (by rw [List.length_append]; omega), List.getElem?_drop, List.length_append, List.getElem?_reverse (by omega)]
      congr 1; omega
    · rw [if_neg (by omega), List.getElem?_append_left (by rw [List.length_append]; omega), List.getElem?_append_right (by omega), List.getElem?_take, if_pos (by omega), List.getElem?_drop]
      congr 1; omega
theorem revI_len (xs : List Int) (i : Nat) (hi : i + i ≤ xs.length) : (revI xs i).length = xs.length := by
  simp only [revI, List.length_append, List.length_take, List.length_drop, List.length_reverse]; omega
theorem revI_zero (xs : List Int) : revI xs 0 = xs := by simp [revI]
theorem revI_end (xs : List Int) (i : Nat) (hi : i + i ≤ xs.length) (h : xs.length ≤ i + i + 1) : revI xs i = xs.reverse := by
  apply List.ext_getElem?
  intro j
  by_cases hj : j < xs.length
  · rw [revI_get xs i j hi hj, List.getElem?_reverse hj]
    split
    · rfl
    · congr 1; omega
  · rw [List.getElem?_eq_none (by rw [revI_len xs i hi]; omega), List.getElem?_eq_none (by simp; omega)]
theorem revI_step (xs : List Int) (i : Nat) (hi : i + i + 1 < xs.length) {x y : Int} (hx : (revI xs i)[i]? = some x) (hy : (revI xs i)[xs.length - 1 - i]? = some y) :
    ((revI xs i).set i y).set (xs.length - 1 - i) x = revI xs (i + 1) := by
  rw [revI_get xs i i (by omega) (by omega), if_neg (by omega)] at hx
  rw [revI_get xs i _ (by omega) (by omega), if_neg (by omega)] at hy
  apply List.ext_getElem?
  intro j
  by_cases hj : j < xs.length
  · rw [revI_get xs (i + 1) j (by omega) hj, List.getElem?_set, List.getElem?_set]
    by_cases h1 : xs.length - 1 - i = j
    · subst h1
      rw [if_pos rfl, if_pos (by rw [List.length_set, revI_len xs i (by omega)]; omega), if_pos (.inr (by omega)), ← hx]
      congr 1; omega
    · rw [if_neg h1]
      by_cases h2 : i = j
      · subst h2
        rw [if_pos rfl, if_pos (by rw [revI_len xs i (by omega)]; omega), if_pos (.inl (by omega)), ← hy]
      · rw [if_neg h2, revI_get xs i j (by omega) hj]
        by_cases h3 : j < i ∨ xs.length - i ≤ j
        · rw [if_pos h3, if_pos (by omega)]
        · rw [if_neg h3, if_neg (by omega)]
  · rw [List.getElem?_eq_none (by simp only [List.length_set]; rw [revI_len xs i (by omega)]; omega), List.getElem?_eq_none (by rw [revI_len xs (i + 1) (by omega)]; omega)]

theorem c_Reverse (W : World) (base : List Blk) (d : SD) (xs : List Int) (hd : d.ok 1 xs.length) (hn : xs.length < 140737488355328) :
    CF Try.prog W base 41 #[.slice d.a xs.length d.cap] [SD.blk 3 encInt d xs] (fun _ : Unit => .tuple #[]) (fun _ => [SD.blk 3 encInt d xs.reverse]) (fun _ => True) := by
  intro F
  refine ctIntro Try.func41 rfl rfl (by kernel_rfl) ?_
  refine sSeq (sReg (lRunS 3 [] [(6, .int .i64 (IntKind.i64.wrap ((xs.length : Int) - 1))), (5, .int .i64 (xs.length : Int)), (4, .slice d.a xs.length d.cap)] [] (by kernel_rfl) (lOv 6 (iw (x := (xs.length : Int) - 1) (by omega)) (by kernel_rfl) (lRunS 2 [] [(3, .int .i64 ((xs.length : Int) - 1)), (2, .int .i64 0)] [] (by kernel_rfl) (lEnd ?_)))))
  refine sBlock ?_
  refine sRe (its' := [SD.blk 3 encInt d (revI xs 0), F]) (by rw [revI_zero]; rfl) ?_
  refine sOv (v := .int .i64 ((xs.length : Int) - 1 - ((0 : Nat) : Int))) (v0 := .int .i64 ((xs.length : Int) - 1)) 3 (congrArg (Value.int .i64) (by omega)) (by kernel_rfl) ?_
  refine sLoop (fun (i : Nat) => [(3, .int .i64 ((xs.length : Int) - 1 - (i : Int))), (2, .int .i64 (i : Int)), (0, .slice d.a xs.length d.cap)]) (fun (i : Nat) => [SD.blk 3 encInt d (revI xs i), F]) (fun (i : Nat) => i + i ≤ xs.length) (fun (i : Nat) => xs.length - i) 0 (by omega) (by kernel_rfl) rfl ?_
  rintro i hi
  refine sSeq (sSeq (rRunS [] [(9, .bool (decide ((i : Int) < ((xs.length : Int) - 1 - (i : Int))))), (8, .int .i64 ((xs.length : Int) - 1 - (i : Int))), (7, .int .i64 (i : Int))] [] (by kernel_rfl) ?_))
  refine sIfP (bpD ((i : Int) < ((xs.length : Int) - 1 - (i : Int)))) (by kernel_rfl) (fun h1 => ?_) (fun h1 => ?_)
  · have hij : i + i + 1 < xs.length := by omega
    have hrl := revI_len xs i (by omega)
    refine sSkip (sSeq (sBlock ?_))
    refine rHeld (by kernel_rfl) (by kernel_rfl) [F] ?_
    refine hTakes [0, 1, 2, 3] [] [1] [(17, .int .i64 ((xs.length : Int) - 1 - (i : Int))), (16, .slice d.a xs.length d.cap), (15, .int .i64 (i : Int)), (14, .slice d.a xs.length d.cap)] [] (by kernel_rfl) (by kernel_rfl) (by kernel_rfl) (by kernel_rfl) (hOv (v := .int .i64 (((xs.length - 1 - i) : Nat) : Int)) (v0 := .int .i64 ((xs.length : Int) - 1 - (i : Int))) 17 (congrArg (Value.int .i64) (by omega)) (by kernel_rfl) (hTakes [4, 5] [] [1] [(19, .int .i64 ((xs.length : Int) - 1 - (i : Int))), (18, .slice d.a xs.length d.cap)] [] (by kernel_rfl) (by kernel_rfl) (by kernel_rfl) (by kernel_rfl) (hOv (v := .int .i64 (((xs.length - 1 - i) : Nat) : Int)) (v0 := .int .i64 ((xs.length : Int) - 1 - (i : Int))) 19 (congrArg (Value.int .i64) (by omega)) (by kernel_rfl) ?_)))
    obtain ⟨q1, hq1⟩ := sd_at hd (by omega)
    refine hR (u := .pointer (some ⟨q1, (xs.length - 1 - i) * 1, none⟩)) 6 [1] (runIndexD0 (T := 39) (E := 3) (n := xs.length) (c := d.cap) (b := q1) (k := 1) (ik := .i64) (xs.length - 1 - i) hq1 (by kernel_rfl) (by kernel_rfl) (by omega)) (by kernel_rfl) (by kernel_rfl) (by kernel_rfl) (by kernel_rfl) (by kernel_rfl) (by kernel_rfl) (by kernel_rfl) rfl (hTakes [8, 9] [] [1] [(23, .int .i64 (i : Int)), (22, .slice d.a xs.length d.cap)] [] (by kernel_rfl) (by kernel_rfl) (by kernel_rfl) (by kernel_rfl) (hR (u := .pointer (some ⟨q1, i * 1, none⟩)) 10 [1] (runIndexD0 (T := 39) (E := 3) (n := xs.length) (c := d.cap) (b := q1) (k := 1) (ik := .i64) i hq1 (by kernel_rfl) (by kernel_rfl) (by omega)) (by kernel_rfl) (by kernel_rfl) (by kernel_rfl) (by kernel_rfl) (by kernel_rfl) (by kernel_rfl) (by kernel_rfl) rfl ?_))
    refine hAll2 7 11 (by kernel_rfl) ?_ ?_
    · obtain ⟨x2, hx2⟩ : ∃ x, (revI xs i)[(xs.length - 1 - i)]? = some x := ⟨_, List.getElem?_eq_getElem (by (try simp only [List.length_set, List.length_append, List.length_replicate]); omega)⟩
      refine hOp 7 [1] (OS.x (u := fun _ => .int .i64 x2) (by kernel_rfl) (by kernel_rfl) (RunR.x (runLoadE1 (f := encInt) (T := 3) (b := q1) (T' := 3) (rest := d.rest) (v := .int .i64 x2) (fun _ => rfl) (1, 0) (sd_at0 hq1 0 (by kernel_rfl)) hx2 rfl (by kernel_rfl))) (fun _ => by kernel_rfl)) (by kernel_rfl) (by kernel_rfl) (fun _ => by kernel_rfl) ?_
      rintro ⟨⟩ -
      obtain ⟨x3, hx3⟩ : ∃ x, (revI xs i)[i]? = some x := ⟨_, List.getElem?_eq_getElem (by (try simp only [List.length_set, List.length_append, List.length_replicate]); omega)⟩
      refine hOS 11 [1] (OS.x (u := fun _ => .int .i64 x3) (by kernel_rfl) (by kernel_rfl) (RunR.x (runLoadE1 (f := encInt) (T := 3) (b := q1) (T' := 3) (rest := d.rest) (v := .int .i64 x3) (fun _ => rfl) (1, 0) (sd_at0 hq1 0 (by kernel_rfl)) hx3 rfl (by kernel_rfl))) (fun _ => by kernel_rfl)) (by kernel_rfl) (by kernel_rfl) (by kernel_rfl) (fun _ => by kernel_rfl) ?_
      rintro ⟨⟩ -
      refine hR (u := .pointer (some ⟨q1, i * 1, none⟩)) 12 [1] (runIndexD0 (T := 39) (E := 3) (n := xs.length) (c := d.cap) (b := q1) (k := 1) (ik := .i64) i hq1 (by kernel_rfl) (by kernel_rfl) (by omega)) (by kernel_rfl) (by kernel_rfl) (by kernel_rfl) (by kernel_rfl) (by kernel_rfl) (by kernel_rfl) (by kernel_rfl) rfl ?_
      refine hOS 13 [1] (OS.x (u := fun _ => undef) (by kernel_rfl) (by kernel_rfl) (runStoreD1 (f := encInt) (i := 0) (T := 3) (T' := 3) (v := .int .i64 x2) (fun _ => rfl) x2 hq1 (by kernel_rfl) hx3 rfl rfl (by kernel_rfl)) (fun _ => by kernel_rfl)) (by kernel_rfl) (by kernel_rfl) (by kernel_rfl) (fun _ => by kernel_rfl) ?_
      rintro ⟨⟩ -
      refine hR (u := .pointer (some ⟨q1, (xs.length - 1 - i) * 1, none⟩)) 14 [1] (runIndexD0 (T := 39) (E := 3) (n := xs.length) (c := d.cap) (b := q1) (k := 1) (ik := .i64) (xs.length - 1 - i) hq1 (by kernel_rfl) (by kernel_rfl) (by omega)) (by kernel_rfl) (by kernel_rfl) (by kernel_rfl) (by kernel_rfl) (by kernel_rfl) (by kernel_rfl) (by kernel_rfl) rfl ?_
      obtain ⟨x4, hx4⟩ : ∃ x, ((revI xs i).set i x2)[(xs.length - 1 - i)]? = some x := ⟨_, List.getElem?_eq_getElem (by (try simp only [List.length_set, List.length_append, List.length_replicate]); omega)⟩
      refine hOS 15 [1] (OS.x (u := fun _ => undef) (by kernel_rfl) (by kernel_rfl) (runStoreD1 (f := encInt) (i := 0) (T := 3) (T' := 3) (v := .int .i64 x3) (fun _ => rfl) x3 hq1 (by kernel_rfl) hx4 rfl rfl (by kernel_rfl)) (fun _ => by kernel_rfl)) (by kernel_rfl) (by kernel_rfl) (by kernel_rfl) (fun _ => by kernel_rfl) ?_
      rintro ⟨⟩ -
      refine hEnd (by kernel_rfl) (sEnd (sReg (lRunS 2 [] [(11, .int .i64 (IntKind.i64.wrap ((i : Int) + 1))), (10, .int .i64 (i : Int))] [] (by kernel_rfl) (lOv 11 (iw (x := (i : Int) + 1) (by omega)) (by kernel_rfl) (lRunS 2 [] [(13, .int .i64 (IntKind.i64.wrap (((xs.length : Int) - 1 - (i : Int)) - 1))), (12, .int .i64 ((xs.length : Int) - 1 - (i : Int)))] [] (by kernel_rfl) ?_)))))
      refine lOv 13 (iw (x := ((xs.length : Int) - 1 - (i : Int)) - 1) (by omega)) (by kernel_rfl) (lRunS 2 [] [(3, .int .i64 (((xs.length : Int) - 1 - (i : Int)) - 1)), (2, .int .i64 ((i : Int) + 1))] [] (by kernel_rfl) (lEnd ?_))
      refine sRe (its' := [SD.blk 3 encInt d (revI xs (i + 1)), F]) (by rw [revI_step xs i hij hx3 hx2]; rfl) ?_
      refine sOv (v := .int .i64 ((xs.length : Int) - 1 - ((i + 1 : Nat) : Int))) (v0 := .int .i64 (((xs.length : Int) - 1 - (i : Int)) - 1)) 3 (congrArg (Value.int .i64) (by omega)) (by kernel_rfl) ?_
      exact sAgain (i + 1) (by omega) (by first | omega | (simp only []; omega)) (by kernel_rfl) rfl
    · obtain ⟨x5, hx5⟩ : ∃ x, (revI xs i)[i]? = some x := ⟨_, List.getElem?_eq_getElem (by (try simp only [List.length_set, List.length_append, List.length_replicate]); omega)⟩
      refine hOp 11 [1] (OS.x (u := fun _ => .int .i64 x5) (by kernel_rfl) (by kernel_rfl) (RunR.x (runLoadE1 (f := encInt) (T := 3) (b := q1) (T' := 3) (rest := d.rest) (v := .int .i64 x5) (fun _ => rfl) (1, 0) (sd_at0 hq1 0 (by kernel_rfl)) hx5 rfl (by kernel_rfl))) (fun _ => by kernel_rfl)) (by kernel_rfl) (by kernel_rfl) (fun _ => by kernel_rfl) ?_
      rintro ⟨⟩ -
      obtain ⟨x6, hx6⟩ : ∃ x, (revI xs i)[(xs.length - 1 - i)]? = some x := ⟨_, List.getElem?_eq_getElem (by (try simp only [List.length_set, List.length_append, List.length_replicate]); omega)⟩
      refine hOS 7 [1] (OS.x (u := fun _ => .int .i64 x6) (by kernel_rfl) (by kernel_rfl) (RunR.x (runLoadE1 (f := encInt) (T := 3) (b := q1) (T' := 3) (rest := d.rest) (v := .int .i64 x6) (fun _ => rfl) (1, 0) (sd_at0 hq1 0 (by kernel_rfl)) hx6 rfl (by kernel_rfl))) (fun _ => by kernel_rfl)) (by kernel_rfl) (by kernel_rfl) (by kernel_rfl) (fun _ => by kernel_rfl) ?_
      rintro ⟨⟩ -
      refine hR (u := .pointer (some ⟨q1, i * 1, none⟩)) 12 [1] (runIndexD0 (T := 39) (E := 3) (n := xs.length) (c := d.cap) (b := q1) (k := 1) (ik := .i64) i hq1 (by kernel_rfl) (by kernel_rfl) (by omega)) (by kernel_rfl) (by kernel_rfl) (by kernel_rfl) (by kernel_rfl) (by kernel_rfl) (by kernel_rfl) (by kernel_rfl) rfl ?_
      refine hOS 13 [1] (OS.x (u := fun _ => undef) (by kernel_rfl) (by kernel_rfl) (runStoreD1 (f := encInt) (i := 0) (T := 3) (T' := 3) (v := .int .i64 x6) (fun _ => rfl) x6 hq1 (by kernel_rfl) hx5 rfl rfl (by kernel_rfl)) (fun _ => by kernel_rfl)) (by kernel_rfl) (by kernel_rfl) (by kernel_rfl) (fun _ => by kernel_rfl) ?_
      rintro ⟨⟩ -
      refine hR (u := .pointer (some ⟨q1, (xs.length - 1 - i) * 1, none⟩)) 14 [1] (runIndexD0 (T := 39) (E := 3) (n := xs.length) (c := d.cap) (b := q1) (k := 1) (ik := .i64) (xs.length - 1 - i) hq1 (by kernel_rfl) (by kernel_rfl) (by omega)) (by kernel_rfl) (by kernel_rfl) (by kernel_rfl) (by kernel_rfl) (by kernel_rfl) (by kernel_rfl) (by kernel_rfl) rfl ?_
      obtain ⟨x7, hx7⟩ : ∃ x, ((revI xs i).set i x6)[(xs.length - 1 - i)]? = some x := ⟨_, List.getElem?_eq_getElem (by (try simp only [List.length_set, List.length_append, List.length_replicate]); omega)⟩
      refine hOS 15 [1] (OS.x (u := fun _ => undef) (by kernel_rfl) (by kernel_rfl) (runStoreD1 (f := encInt) (i := 0) (T := 3) (T' := 3) (v := .int .i64 x5) (fun _ => rfl) x5 hq1 (by kernel_rfl) hx7 rfl rfl (by kernel_rfl)) (fun _ => by kernel_rfl)) (by kernel_rfl) (by kernel_rfl) (by kernel_rfl) (fun _ => by kernel_rfl) ?_
      rintro ⟨⟩ -
      refine hEnd (by kernel_rfl) (sEnd (sReg (lRunS 2 [] [(11, .int .i64 (IntKind.i64.wrap ((i : Int) + 1))), (10, .int .i64 (i : Int))] [] (by kernel_rfl) (lOv 11 (iw (x := (i : Int) + 1) (by omega)) (by kernel_rfl) (lRunS 2 [] [(13, .int .i64 (IntKind.i64.wrap (((xs.length : Int) - 1 - (i : Int)) - 1))), (12, .int .i64 ((xs.length : Int) - 1 - (i : Int)))] [] (by kernel_rfl) ?_)))))
      refine lOv 13 (iw (x := ((xs.length : Int) - 1 - (i : Int)) - 1) (by omega)) (by kernel_rfl) (lRunS 2 [] [(3, .int .i64 (((xs.length : Int) - 1 - (i : Int)) - 1)), (2, .int .i64 ((i : Int) + 1))] [] (by kernel_rfl) (lEnd ?_))
      refine sRe (its' := [SD.blk 3 encInt d (revI xs (i + 1)), F]) (by rw [revI_step xs i hij hx5 hx6]; rfl) ?_
      refine sOv (v := .int .i64 ((xs.length : Int) - 1 - ((i + 1 : Nat) : Int))) (v0 := .int .i64 (((xs.length : Int) - 1 - (i : Int)) - 1)) 3 (congrArg (Value.int .i64) (by omega)) (by kernel_rfl) ?_
      exact sAgain (i + 1) (by omega) (by first | omega | (simp only []; omega)) (by kernel_rfl) rfl
  · refine sExit (by kernel_rfl) ?_
    exact sNil (wFall () (0, 0) [] (.tuple #[]) [] rfl (by kernel_rfl) rfl trivial (fun _ h => by rw [revI_end xs i hi (by omega)] at h; exact h))

theorem c_Index (W : World) (base : List Blk) (d : SD) (xs : List Nat) (k : Nat) (v : Int) (hd : d.ok 1 xs.length) (hk : k ≤ xs.length) (hn : xs.length < 140737488355328) :
    CP Try.prog W base 54 #[.slice d.a k d.cap, .int .i64 v] [SD.blk 3 encNat d xs] (.int .i64 (idxN (xs.take k) v 0)) := by
  intro F
  refine ctIntro Try.func54 rfl rfl (by kernel_rfl) ?_
  refine sSeq (rRunS [] [(4, .int .i64 0)] [] (by kernel_rfl) (sSeq (sSeq (rRunS [] [(8, .int .i64 0), (7, .int .i64 (k : Int)), (6, .slice d.a k d.cap)] [] (by kernel_rfl) (sBlock ?_)))))
  refine sLoop (fun (i : Nat) => [(8, .int .i64 (i : Int)), (7, .int .i64 (k : Int)), (6, .slice d.a k d.cap), (1, .int .i64 v), (0, .slice d.a k d.cap)]) (fun (i : Nat) => [SD.blk 3 encNat d xs, F]) (fun (i : Nat) => i ≤ k ∧ idxN ((xs.take k).drop i) v (i : Int) = idxN (xs.take k) v 0) (fun (i : Nat) => k - i) 0 ⟨by omega, by simp⟩ (by kernel_rfl) rfl ?_
  rintro i ⟨hi, hI⟩
  refine sSeq (rRunS [] [(9, .bool (decide ((i : Int) < (k : Int))))] [] (by kernel_rfl) (sSeq ?_))
  refine sIfP (bpD ((i : Int) < (k : Int))) (by kernel_rfl) (fun h1 => ?_) (fun h1 => ?_)
  · refine sSkip (sSeq (sBlock (sSeq (rRunS [] [(5, .int .i64 (i : Int)), (10, .int .i64 (i : Int))] [] (by kernel_rfl) (sSeq ?_)))))
    refine sReg (lRunS 3 [] [(13, .int .i64 (i : Int)), (12, .slice d.a k d.cap), (11, .int .i64 v)] [] (by kernel_rfl) ?_)
    obtain ⟨q1, hq1⟩ := sd_at hd (by omega)
    refine lR (u := .pointer (some ⟨q1, i * 1, none⟩)) (runIndexD0 (T := 39) (E := 3) (n := k) (c := d.cap) (b := q1) (k := 1) (ik := .i64) i hq1 (by kernel_rfl) (by kernel_rfl) (by omega)) (by kernel_rfl) (by kernel_rfl) (by kernel_rfl) ?_
    obtain ⟨x2, hx2⟩ : ∃ x, xs[i]? = some x := ⟨_, List.getElem?_eq_getElem (by (try simp only [List.length_set, List.length_append, List.length_replicate]); omega)⟩
    refine lR (u := .int .i64 (x2 : Int)) (runLoadE1 (f := encNat) (T := 3) (b := q1) (T' := 3) (rest := d.rest) (v := .int .i64 (x2 : Int)) (fun _ => rfl) (1, 0) (sd_at0 hq1 0 (by kernel_rfl)) hx2 rfl (by kernel_rfl)) (by kernel_rfl) (by kernel_rfl) (by kernel_rfl) (lRunS 1 [] [(16, .bool (decide (v = (x2 : Int))))] [] (by kernel_rfl) (lEnd ?_))
    refine sIfP (bpD (v = (x2 : Int))) (by kernel_rfl) (fun h2 => ?_) (fun h2 => ?_)
    · have htk : (xs.take k)[i]? = some x2 := by rw [List.getElem?_take, if_pos (by omega)]; exact hx2
      refine sSeq (rRunS [] [(4, .int .i64 (i : Int)), (17, .int .i64 (i : Int))] [] (by kernel_rfl) (sRet ?_))
      exact wRet () (0, 0) [] (.int .i64 (i : Int)) [.tmp 4] rfl (by kernel_rfl) (congrArg (Value.int .i64) (by rw [← hI, drop_of htk]; simp only [idxN]; rw [if_pos h2])) trivial (fun _ h => h)
    · have htk : (xs.take k)[i]? = some x2 := by rw [List.getElem?_take, if_pos (by omega)]; exact hx2
      refine sSkip (sEnd (sReg (lRunS 1 [] [(18, .int .i64 (IntKind.i64.wrap ((i : Int) + 1)))] [] (by kernel_rfl) (lOv 18 (iw (x := (i : Int) + 1) (by omega)) (by kernel_rfl) (lRunS 1 [] [(8, .int .i64 ((i : Int) + 1))] [] (by kernel_rfl) ?_)))))
      refine lEnd ?_
      exact sAgain (i + 1) ⟨by omega, by rw [← hI, drop_of htk]; simp only [idxN]; rw [if_neg h2]; rfl⟩ (by first | omega | (simp only []; omega)) (by kernel_rfl) rfl
  · refine sExit (by kernel_rfl) (sSeq (rRunS [] [(4, .int .i64 (-1))] [] (by kernel_rfl) (sRet ?_)))
    exact wRet () (0, 0) [] (.int .i64 (-1)) [.tmp 4] rfl (by kernel_rfl) (congrArg (Value.int .i64) (by rw [← hI, List.drop_of_length_le (by rw [List.length_take]; omega)]; rfl)) trivial (fun _ h => h)

theorem c_Contains (W : World) (base : List Blk) (d : SD) (xs : List Nat) (k : Nat) (v : Int) (hd : d.ok 1 xs.length) (hk : k ≤ xs.length) (hn : xs.length < 140737488355328) :
    CP Try.prog W base 40 #[.slice d.a k d.cap, .int .i64 v] [SD.blk 3 encNat d xs] (.bool (decide (idxN (xs.take k) v 0 ≥ (0 : Int)))) := by
  intro F
  refine ctIntro Try.func40 rfl rfl (by kernel_rfl) ?_
  refine sSeq (rRunS [] [(4, .bool false)] [] (by kernel_rfl) (sSeq (sReg (lRunS 2 [] [(6, .int .i64 v), (5, .slice d.a k d.cap)] [] (by kernel_rfl) (lCallR [0] [0, 1] (c_Index W base d xs k v hd hk hn) (by kernel_rfl) (by kernel_rfl) (by kernel_rfl) (by kernel_rfl) (by kernel_rfl) ?_)))))
  refine lRunS 2 [] [(4, .bool (decide ((idxN (xs.take k) v 0) ≥ (0 : Int)))), (8, .bool (decide ((idxN (xs.take k) v 0) ≥ (0 : Int))))] [] (by kernel_rfl) (lEnd (sRet ?_))
  exact wRet () (0, 0) [] (.bool (decide ((idxN (xs.take k) v 0) ≥ (0 : Int)))) [.tmp 4] rfl (by kernel_rfl) rfl trivial (fun _ h => h)

end Go.Proofs.Ytinpojleegfadaa
