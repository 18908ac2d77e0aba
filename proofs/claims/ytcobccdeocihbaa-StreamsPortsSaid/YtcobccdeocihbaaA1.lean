/- The walk of slices.Delete of a prefix of bytes. -/
import Derived.Test.YtcobccdeocihbaaProg
import Derived.Test.YtcobccdeocihbaaSm
import Derived.Test.YtcobccdeocihbaaSp
import Derived.Test.YtcobccdeocihbaaSu
namespace Go.Proofs.Ytcobccdeocihbaa
open Go.Sx
set_option maxRecDepth 100000
set_option linter.unusedSimpArgs false
set_option linter.unusedVariables false
def encByte (b : UInt8) : List Value := [Extern.Stop.cell b]
theorem one_encByte {x : UInt8} {u : Value} (h : u ∈ encByte x) : oneC u = true := by simp only [encByte, List.mem_singleton] at h; subst h; rfl
theorem fm_len (xs : List UInt8) : (xs.flatMap encByte).length = xs.length := by rw [flatMap_len (k := 1) (fun _ => rfl), Nat.mul_one]
theorem fm_one (xs : List UInt8) : (xs.flatMap encByte).all oneC = true := List.all_eq_true.2 fun u hu => by
  obtain ⟨y, _, hy⟩ := List.mem_flatMap.1 hu
  exact one_encByte hy
section
variable {P : Program} {W : World} {base : List Blk} {its : Items}
theorem runDelApp {t ty e b c n j : Nat} {xs : List UInt8} {r : List Value} (i : Nat) (ht : P.underlying t = some (.slice e)) (he : (P.info? e).map (·.size) = some 1)
    (hi : its[i]? = some [(b, .cells (arr encByte xs r) e (0, 0))]) (hn : xs.length = n) (hj : j ≤ n) (hc : n ≤ c) (hr : c = n + r.length) :
    RunX P W base its (do pure (Next.value (← Builtin.append_ #[t, t] ty #[.slice (some ⟨b, 0, none⟩) 0 c, .slice (some ⟨b, if c = j then 0 else 0 + j * 1, none⟩) (n - j) (c - j)]))) (fun _ : Unit => .value (.slice (some ⟨b, 0, none⟩) (n - j) c))
      (fun _ => its.set i [(b, .cells (arr encByte (xs.drop j) ((xs.flatMap encByte ++ r).drop (n - j))) e (0, 0))]) (fun _ => True) := by
  have hl : ((xs.drop j).flatMap encByte).length = (n - j) * 1 := by rw [fm_len, List.length_drop, hn, Nat.mul_one]
  have hsz : (arr encByte xs r).size = c := by simp only [arr, List.size_toArray, List.length_append, fm_len]; omega
  have h := runAppendIn (P := P) (W := W) (base := base) (its := its) (ty := ty) (n := 0) (c := c) (c2 := c - j) (m := n - j) (p := ⟨b, if c = j then 0 else 0 + j * 1, none⟩) (cur := arr encByte xs r) i ((xs.drop j).flatMap encByte) ht he hi (fun hb w hs q u hu => by
      have hq := (List.getElem?_eq_some_iff.1 hu).1
      rw [hl] at hq
      have hcj : ¬ c = j := by omega
      rw [if_neg hcj]
      have hh : w.heap[b]? = some (.cells (arr encByte xs r) e (0, 0)) := hs.at hb (ij := (i + 1, 0)) (by simp only [blkAt, hi]; rfl)
      have hadd : (⟨b, 0 + j * 1, none⟩ : Addr).add q = ⟨b, j + q, none⟩ := by unfold Addr.add; split <;> simp_all
      rw [hadd]
      refine cell_of hh ?_
      have e1 : xs.flatMap encByte = (xs.take j).flatMap encByte ++ (xs.drop j).flatMap encByte := by rw [← List.flatMap_append, List.take_append_drop]
      have l1 : ((xs.take j).flatMap encByte).length = j := by rw [fm_len, List.length_take]; omega
      simp only [arr, List.getElem?_toArray]
      rw [e1, List.append_assoc, List.getElem?_append_right (by omega), l1, show j + q - j = q by omega, List.getElem?_append_left (by omega)]
      exact hu) (fm_one _) hl (by omega) (by omega)
  have e0 : 0 + (n - j) = n - j := by omega
  rw [e0] at h
  have e2 : ((arr encByte xs r).toList.take (0 * 1) ++ (xs.drop j).flatMap encByte ++ (arr encByte xs r).toList.drop (0 * 1 + (n - j) * 1)).toArray = arr encByte (xs.drop j) ((xs.flatMap encByte ++ r).drop (n - j)) := by
    simp only [arr, Nat.zero_mul, List.take_zero, List.nil_append, Nat.zero_add, Nat.mul_one]
  rw [e2] at h
  exact h
theorem runDelClear {t ty e b c n j : Nat} {xs : List UInt8} {r : List Value} (i : Nat) (ht : P.underlying t = some (.slice e)) (he : (P.info? e).bind (·.zero) = some (.int .u8 0))
    (hi : its[i]? = some [(b, .cells (arr encByte (xs.drop j) ((xs.flatMap encByte ++ r).drop (n - j))) e (0, 0))]) (hn : xs.length = n) (hj0 : 0 < j) (hj : j ≤ n) (c2 : Nat) :
    RunX P W base its (do pure (Next.value (← Builtin.clear_ #[t] ty #[.slice (some ⟨b, 0 + (n - j) * 1, none⟩) (n - (n - j)) c2]))) (fun _ : Unit => .value (.tuple #[]))
      (fun _ => its.set i [(b, .cells (arr encByte (xs.drop j) (List.replicate j (.int .u8 0) ++ r)) e (0, 0))]) (fun _ => True) := by
  have hl : ((xs.drop j).flatMap encByte).length = n - j := by rw [fm_len, List.length_drop, hn]
  have hl2 : ((xs.flatMap encByte ++ r).drop (n - j)).length = j + r.length := by rw [List.length_drop, List.length_append, fm_len, hn]; omega
  have h := runClear (P := P) (W := W) (base := base) (its := its) (ty := ty) (o := 0 + (n - j) * 1) (n := n - (n - j)) (c := c2) (cur := arr encByte (xs.drop j) ((xs.flatMap encByte ++ r).drop (n - j))) (z := .int .u8 0) i ht he rfl rfl hi (by omega) (by
    simp only [arr, List.size_toArray, List.length_append, hl, hl2]; omega)
  have e2 : ((arr encByte (xs.drop j) ((xs.flatMap encByte ++ r).drop (n - j))).toList.take (0 + (n - j) * 1) ++ List.replicate (n - (n - j)) (Value.int .u8 0) ++ (arr encByte (xs.drop j) ((xs.flatMap encByte ++ r).drop (n - j))).toList.drop (0 + (n - j) * 1 + (n - (n - j)))).toArray = arr encByte (xs.drop j) (List.replicate j (.int .u8 0) ++ r) := by
    have key : ∀ (A R z : List Value), A.length = n - j → (A ++ R).take (n - j) ++ z ++ (A ++ R).drop n = A ++ (z ++ R.drop j) := by
      intro A R z hA
      rw [List.take_left' hA, List.drop_append, List.drop_of_length_le (by omega), List.nil_append, hA, show n - (n - j) = j by omega, List.append_assoc]
    have hR : ((xs.flatMap encByte ++ r).drop (n - j)).drop j = r := by
      rw [List.drop_drop, show n - j + j = n by omega]; exact List.drop_left' (by rw [fm_len, hn])
    simp only [arr, Nat.mul_one, Nat.zero_add]
    rw [show n - (n - j) = j by omega, show n - j + j = n by omega, key _ _ _ hl, hR]
  rw [e2] at h
  exact h
end

theorem c_delB (W : World) (base : List Blk) (b n c j : Nat) (xs : List UInt8) (r : List Value) (hn : xs.length = n) (hc : n ≤ c) (hr : c = n + r.length) (hj0 : 0 < j) (hj : j ≤ n) :
    CF Try.prog W base 68 #[.slice (some ⟨b, 0, none⟩) n c, .int .i64 0, .int .i64 (j : Int)] [[(b, .cells (arr encByte xs r) 5)]] (fun _ : Unit => .slice (some ⟨b, 0, none⟩) (n - j) c) (fun _ => [[(b, .cells (arr encByte (xs.drop j) (List.replicate j (.int .u8 0) ++ r)) 5)]]) (fun _ => True) := by
  intro F
  refine ctIntro Try.func68 rfl rfl (by kernel_rfl) ?_
  refine sSeq (rRunS [] [(6, .slice none 0 0)] [] (by kernel_rfl) (sSeq (sReg (lRunS 5 [] [(12, .int .i64 (n : Int)), (11, .slice (some ⟨b, 0, none⟩) n c), (10, .int .i64 (j : Int)), (9, .int .i64 0), (8, .slice (some ⟨b, 0, none⟩) n c)] [] (by kernel_rfl) (lR (u := .slice (some ⟨b, 0, none⟩) j n) (runSliceZHM (T := 26) (E := 5) (n := n) (c := c) (a := some ⟨b, 0, none⟩) (ik0 := .i64) (ik := .i64) (ik2 := .i64) j n (by kernel_rfl) (by kernel_rfl) hj hc) (by kernel_rfl) (by kernel_rfl) (by kernel_rfl) ?_)))))
  refine lEnd (sSeq (sSeq (sReg (lRunS 3 [] [(16, .bool (decide ((0 : Int) = (j : Int)))), (15, .int .i64 (j : Int)), (14, .int .i64 0)] [] (by kernel_rfl) (lOv (v := .bool false) (v0 := .bool (decide ((0 : Int) = (j : Int)))) 16 (ovF (bpD ((0 : Int) = (j : Int))) (by omega)) (by kernel_rfl) ?_)))))
  refine lEnd (sIfF (by kernel_rfl) (sSkip (sSeq (rRunS [] [(7, .int .i64 (n : Int)), (19, .int .i64 (n : Int)), (18, .slice (some ⟨b, 0, none⟩) n c)] [] (by kernel_rfl) (sSeq ?_)))))
  refine rHeld (by kernel_rfl) (by kernel_rfl) [F] ?_
  refine hTakes [0, 1] [] [1] [(21, .int .i64 0), (20, .slice (some ⟨b, 0, none⟩) n c)] [] (by kernel_rfl) (by kernel_rfl) (by kernel_rfl) (by kernel_rfl) (hR (u := .slice (some ⟨b, 0, none⟩) 0 c) 2 [1] (runSliceHi (T := 26) (E := 5) (n := n) (c := c) (a := (some ⟨b, 0, none⟩)) (ik := .i64) 0 (by kernel_rfl) (by kernel_rfl) (by omega)) (by kernel_rfl) (by kernel_rfl) (by kernel_rfl) (by kernel_rfl) (by kernel_rfl) (by kernel_rfl) (by kernel_rfl) rfl (hTakes [3, 4] [] [1] [(24, .int .i64 (j : Int)), (23, .slice (some ⟨b, 0, none⟩) n c)] [] (by kernel_rfl) (by kernel_rfl) (by kernel_rfl) (by kernel_rfl) (hR (u := .slice (some ⟨b, if c = j then 0 else 0 + j * 1, none⟩) (n - j) (c - j)) 5 [1] (runSliceLoG (T := 26) (E := 5) (n := n) (c := c) (b := b) (o := 0) (k := 1) (ik := .i64) j (by kernel_rfl) (by kernel_rfl) hj hc) (by kernel_rfl) (by kernel_rfl) (by kernel_rfl) (by kernel_rfl) (by kernel_rfl) (by kernel_rfl) (by kernel_rfl) rfl ?_)))
  refine hOS 6 [1] (OS.x (u := fun _ : Unit => .slice (some ⟨b, 0, none⟩) (n - j) c) (by kernel_rfl) (by kernel_rfl) (runDelApp (b := b) (c := c) (xs := xs) (r := r) (t := 26) (ty := 26) (e := 5) (n := n) (j := j) 0 (by kernel_rfl) (by kernel_rfl) (by kernel_rfl) hn hj hc hr) (fun _ => by kernel_rfl)) (by kernel_rfl) (by kernel_rfl) (by kernel_rfl) (fun _ => by kernel_rfl) ?_
  rintro ⟨⟩ -
  refine hTakes [7] [] [1] [(0, .slice (some ⟨b, 0, none⟩) (n - j) c)] [] (by kernel_rfl) (by kernel_rfl) (by kernel_rfl) (by kernel_rfl) (hEnd (by kernel_rfl) (sSeq (sReg (lRunS 4 [] [(30, .int .i64 (n : Int)), (29, .int .i64 (((n - j) : Nat) : Int)), (28, .slice (some ⟨b, 0, none⟩) (n - j) c), (27, .slice (some ⟨b, 0, none⟩) (n - j) c)] [] (by kernel_rfl) (lR (u := .slice (some ⟨b, 0 + (n - j) * 1, none⟩) (n - (n - j)) (c - (n - j))) (runSliceLH (T := 26) (E := 5) (n := n - j) (c := c) (b := b) (o := 0) (k := 1) (ik := .i64) (ik2 := .i64) (n - j) n (by kernel_rfl) (by kernel_rfl) (by omega) hc (by omega)) (by kernel_rfl) (by kernel_rfl) (by kernel_rfl) ?_)))))
  refine lX (u := fun _ : Unit => undef) (runDelClear (b := b) (c := c) (xs := xs) (r := r) (t := 26) (ty := 0) (e := 5) (n := n) (j := j) 0 (by kernel_rfl) (by kernel_rfl) (by kernel_rfl) hn hj0 hj (c - (n - j))) (by kernel_rfl) (by kernel_rfl) (fun _ => by kernel_rfl) ?_
  rintro ⟨⟩ -
  refine lEnd (sSeq (rRunS [] [(6, .slice (some ⟨b, 0, none⟩) (n - j) c), (32, .slice (some ⟨b, 0, none⟩) (n - j) c)] [] (by kernel_rfl) (sRet ?_)))
  exact wRet () (0, 0) [] (.slice (some ⟨b, 0, none⟩) (n - j) c) [.tmp 6] rfl (by kernel_rfl) rfl trivial (fun _ h => h)

theorem c_delA (W : World) (base : List Blk) (a : Option Addr) (n c : Nat) (hc : n ≤ c) : CP Try.prog W base 68 #[.slice a n c, .int .i64 0, .int .i64 0] [] (.slice a n c) := by
  intro F
  refine ctIntro Try.func68 rfl rfl (by kernel_rfl) ?_
  refine sSeq (rRunS [] [(6, .slice none 0 0)] [] (by kernel_rfl) (sSeq (sReg (lRunS 5 [] [(12, .int .i64 (n : Int)), (11, .slice a n c), (10, .int .i64 0), (9, .int .i64 0), (8, .slice a n c)] [] (by kernel_rfl) (lR (u := .slice a 0 n) (runSliceZHM (T := 26) (E := 5) (n := n) (c := c) (a := a) (ik0 := .i64) (ik := .i64) (ik2 := .i64) 0 n (by kernel_rfl) (by kernel_rfl) (Nat.zero_le _) hc) (by kernel_rfl) (by kernel_rfl) (by kernel_rfl) ?_)))))
  refine lEnd (sSeq (sSeq (rRunS [] [(16, .bool true), (15, .int .i64 0), (14, .int .i64 0)] [] (by kernel_rfl) (sIfT (by kernel_rfl) (sSeq ?_)))))
  refine rRunS [] [(6, .slice a n c), (17, .slice a n c)] [] (by kernel_rfl) (sRet ?_)
  exact wRet () (0, 0) [] (.slice a n c) [.tmp 6] rfl (by kernel_rfl) rfl trivial (fun _ h => h)

end Go.Proofs.Ytcobccdeocihbaa
