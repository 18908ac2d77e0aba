/- The walks of value, read and sum, on bytes at a known place. -/
import Derived.Test.YtljfjiaiachbfaaDoorProg
import Derived.Test.YtljfjiaiachbfaaDoorM4
import Derived.Test.YtljfjiaiachbfaaDoorA1
namespace Go.Proofs.YtljfjiaiachbfaaDoor
open Go.Sx Go.Sx.Gd
set_option maxRecDepth 100000
set_option linter.unusedSimpArgs false
set_option linter.unusedVariables false
theorem c_valueS (W : World) (base : List Blk) {D : List Blk} {qb qo : Nat} {xs : List UInt8} (m c : Nat) (hS : Src W D qb qo xs) (hm : xs.length = m) (h8 : m ≤ 8) : CP Tryd.prog W base 48 #[.slice (some ⟨qb, qo, none⟩) m c] [D] (.int .i64 (IntKind.i64.wrap ((valN xs : Nat) : Int))) := by
  intro F
  refine ctIntro Tryd.func48 rfl rfl (by kernel_rfl) ?_
  refine sSeq (rRunS [] [(2, .int .i64 0)] [] (by kernel_rfl) (sSeq (rRunS [] [(3, .int .u64 0)] [] (by kernel_rfl) (sSeq (sSeq ?_)))))
  refine rRunS [] [(8, .int .i64 0), (7, .int .i64 (m : Int)), (6, .slice (some ⟨qb, qo, none⟩) m c)] [] (by kernel_rfl) (sBlock ?_)
  refine sOv (v := .int .u64 ((valN (xs.take 0) : Nat) : Int)) (v0 := .int .u64 0) 3 rfl (by kernel_rfl) ?_
  refine sLoop (fun (i : Nat) => [(8, .int .i64 (i : Int)), (7, .int .i64 (m : Int)), (6, .slice (some ⟨qb, qo, none⟩) m c), (3, .int .u64 ((valN (xs.take i) : Nat) : Int)), (0, .slice (some ⟨qb, qo, none⟩) m c)]) (fun (i : Nat) => [D, F]) (fun (i : Nat) => i ≤ m) (fun (i : Nat) => m - i) 0 (by omega) (by kernel_rfl) rfl ?_
  rintro i hi
  refine sSeq (rRunS [] [(9, .bool (decide ((i : Int) < (m : Int))))] [] (by kernel_rfl) (sSeq ?_))
  refine sIfP (bpD ((i : Int) < (m : Int))) (by kernel_rfl) (fun h1 => ?_) (fun h1 => ?_)
  · refine sSkip (sSeq (sBlock (sSeq (sReg (lRunS 1 [] [(10, .int .i64 (i : Int))] [] (by kernel_rfl) ?_)))))
    refine lR (u := .pointer (some ⟨qb, qo + i * 1, none⟩)) (runIndex (T := 40) (E := 5) (n := m) (c := c) (b := qb) (o := qo) (k := 1) (ik := .i64) i (by kernel_rfl) (by kernel_rfl) (by omega)) (by kernel_rfl) (by kernel_rfl) (by kernel_rfl) ?_
    obtain ⟨x1, hx1⟩ : ∃ x, xs[i]? = some x := ⟨_, List.getElem?_eq_getElem (by (try simp only [List.length_set, List.length_append, List.length_replicate, List.length_cons, List.length_nil]); omega)⟩
    refine lR (u := .int .u8 ((x1.toNat : Nat) : Int)) (runLoadSrc (T := 5) (p := qo + i * 1) (x := x1) hS 0 (by kernel_rfl) hx1 (by omega) (by kernel_rfl)) (by kernel_rfl) (by kernel_rfl) (by kernel_rfl) (lRunS 2 [] [(5, .int .u8 ((x1.toNat : Nat) : Int)), (4, .int .i64 (i : Int))] [] (by kernel_rfl) (lEnd (sReg (lRunS 5 [] [(17, .int .i64 (IntKind.i64.wrap (8 * (i : Int)))), (16, .int .i64 (i : Int)), (15, .int .u64 (IntKind.u64.wrap ((x1.toNat : Nat) : Int))), (14, .int .u8 ((x1.toNat : Nat) : Int)), (13, .int .u64 ((valN (xs.take i) : Nat) : Int))] [] (by kernel_rfl) (lOv 17 (iw (x := 8 * (i : Int)) (by omega)) (by kernel_rfl) ?_)))))
    refine lR (u := .int .u64 (IntKind.u64.wrap ((IntKind.u64.wrap ((x1.toNat : Nat) : Int)) * 2 ^ (8 * i)))) (runShl (T := 99) (o1 := (.tmp 15)) (o2 := (.tmp 17)) (k := .u64) (yk := .i64) (x := (IntKind.u64.wrap ((x1.toNat : Nat) : Int))) (y := (8 * (i : Int))) (8 * i) (by omega) (show 8 * i ≤ 64 by omega)) (by kernel_rfl) (by kernel_rfl) (by kernel_rfl) (lRunS 1 [] [(19, .int .u64 (IntKind.u64.wrap ((BitVec.ofInt IntKind.u64.bits ((valN (xs.take i) : Nat) : Int) ||| (BitVec.ofInt IntKind.u64.bits (IntKind.u64.wrap ((IntKind.u64.wrap ((x1.toNat : Nat) : Int)) * 2 ^ (8 * i))))).toNat : Int)))] [] (by kernel_rfl) (lOv (v := .int .u64 ((valN (xs.take (i + 1)) : Nat) : Int)) (v0 := .int .u64 (IntKind.u64.wrap ((BitVec.ofInt IntKind.u64.bits ((valN (xs.take i) : Nat) : Int) ||| (BitVec.ofInt IntKind.u64.bits (IntKind.u64.wrap ((IntKind.u64.wrap ((x1.toNat : Nat) : Int)) * 2 ^ (8 * i))))).toNat : Int))) 19 (congrArg (Value.int .u64) ((valStep (i := i) (by have h := valN_lt (xs.take i); rwa [List.length_take, Nat.min_eq_left (by omega)] at h) (by omega)).trans (by rw [valN_take hx1]))) (by kernel_rfl) (lRunS 1 [] [(3, .int .u64 ((valN (xs.take (i + 1)) : Nat) : Int))] [] (by kernel_rfl) (lEnd (sEnd ?_)))))
    refine sReg (lRunS 1 [] [(20, .int .i64 (IntKind.i64.wrap ((i : Int) + 1)))] [] (by kernel_rfl) (lOv 20 (iw (x := (i : Int) + 1) (by omega)) (by kernel_rfl) (lRunS 1 [] [(8, .int .i64 ((i : Int) + 1))] [] (by kernel_rfl) (lEnd ?_))))
    exact sAgain (i + 1) (by omega) (by first | omega | (simp only []; omega)) (by kernel_rfl) rfl
  · refine sExit (by kernel_rfl) (sSeq (rRunS [] [(2, .int .i64 (IntKind.i64.wrap ((valN (xs.take i) : Nat) : Int))), (22, .int .i64 (IntKind.i64.wrap ((valN (xs.take i) : Nat) : Int))), (21, .int .u64 ((valN (xs.take i) : Nat) : Int))] [] (by kernel_rfl) (sRet ?_)))
    have hil : xs.take i = xs := by rw [show i = xs.length by omega, List.take_length]
    exact wRet () (0, 0) [] (.int .i64 (IntKind.i64.wrap ((valN (xs.take i) : Nat) : Int))) [.tmp 2] rfl (by kernel_rfl) (congrArg (Value.int .i64) (by rw [hil])) trivial (fun _ h => h)

theorem c_readS (W : World) (base : List Blk) {D : List Blk} {qb qo : Nat} {xs : List UInt8} (m c at_ n : Nat) (hS : Src W D qb qo xs) (hm : xs.length = m) (hmx : m ≤ 1000000) (ha : at_ + n ≤ m) (hn : n ≤ 8) : CP Tryd.prog W base 34 #[.slice (some ⟨qb, qo, none⟩) m c, .int .i64 (at_ : Int), .int .i64 (n : Int)] [D] (.int .u64 ((valN ((xs.drop at_).take n) : Nat) : Int)) := by
  intro F
  refine ctIntro Tryd.func34 rfl rfl (by kernel_rfl) ?_
  refine sSeq (rRunS [] [(6, .int .u64 0)] [] (by kernel_rfl) (sSeq (rRunS [] [(7, .int .u64 0)] [] (by kernel_rfl) (sSeq (sSeq ?_)))))
  refine sReg (lRunS 2 [] [(10, .int .i64 (IntKind.i64.wrap ((n : Int) - 1))), (9, .int .i64 (n : Int))] [] (by kernel_rfl) (lOv 10 (iw (x := (n : Int) - 1) (by omega)) (by kernel_rfl) (lRunS 1 [] [(8, .int .i64 ((n : Int) - 1))] [] (by kernel_rfl) (lEnd (sBlock ?_)))))
  have hyl : ((xs.drop at_).take n).length = n := by rw [List.length_take, List.length_drop]; omega
  refine sOv (v := .int .u64 ((valN (((xs.drop at_).take n).drop n) : Nat) : Int)) (v0 := .int .u64 0) 7 (congrArg (Value.int .u64) (by rw [List.drop_of_length_le (by omega)]; rfl)) (by kernel_rfl) ?_
  refine sLoop (fun (j : Nat) => [(8, .int .i64 ((j : Int) - 1)), (7, .int .u64 ((valN (((xs.drop at_).take n).drop j) : Nat) : Int)), (1, .int .i64 (at_ : Int)), (0, .slice (some ⟨qb, qo, none⟩) m c)]) (fun (j : Nat) => [D, F]) (fun (j : Nat) => j ≤ n) (fun (j : Nat) => j) n (by omega) (by kernel_rfl) rfl ?_
  rintro j hj
  refine sSeq (sSeq (rRunS [] [(12, .bool (decide (((j : Int) - 1) ≥ (0 : Int)))), (11, .int .i64 ((j : Int) - 1))] [] (by kernel_rfl) ?_))
  refine sIfP (bpD (((j : Int) - 1) ≥ (0 : Int))) (by kernel_rfl) (fun h1 => ?_) (fun h1 => ?_)
  · refine sSkip (sSeq (sBlock (sReg (lRunS 6 [] [(20, .int .i64 (IntKind.i64.wrap ((at_ : Int) + ((j : Int) - 1)))), (19, .int .i64 ((j : Int) - 1)), (18, .int .i64 (at_ : Int)), (17, .slice (some ⟨qb, qo, none⟩) m c), (16, .int .u64 (IntKind.u64.wrap (((valN (((xs.drop at_).take n).drop j) : Nat) : Int) * 256))), (15, .int .u64 ((valN (((xs.drop at_).take n).drop j) : Nat) : Int))] [] (by kernel_rfl) (lOv (v := .int .i64 ((at_ + (j - 1) : Nat) : Int)) (v0 := .int .i64 (IntKind.i64.wrap ((at_ : Int) + ((j : Int) - 1)))) 20 (congrArg (Value.int .i64) ((wrap_i64 (by omega)).trans (by omega))) (by kernel_rfl) ?_)))))
    refine lR (u := .pointer (some ⟨qb, qo + (at_ + (j - 1)) * 1, none⟩)) (runIndex (T := 40) (E := 5) (n := m) (c := c) (b := qb) (o := qo) (k := 1) (ik := .i64) (at_ + (j - 1)) (by kernel_rfl) (by kernel_rfl) (by omega)) (by kernel_rfl) (by kernel_rfl) (by kernel_rfl) ?_
    obtain ⟨x1, hx1⟩ : ∃ x, xs[at_ + (j - 1)]? = some x := ⟨_, List.getElem?_eq_getElem (by (try simp only [List.length_set, List.length_append, List.length_replicate, List.length_cons, List.length_nil]); omega)⟩
    refine lR (u := .int .u8 ((x1.toNat : Nat) : Int)) (runLoadSrc (T := 5) (p := qo + (at_ + (j - 1)) * 1) (x := x1) hS 0 (by kernel_rfl) hx1 (by omega) (by kernel_rfl)) (by kernel_rfl) (by kernel_rfl) (by kernel_rfl) ?_
    have hyx : ((xs.drop at_).take n)[j - 1]? = some x1 := by rw [List.getElem?_take_of_lt (by omega), List.getElem?_drop]; exact hx1
    have hdr := drop_of hyx
    rw [show j - 1 + 1 = j by omega] at hdr
    have hvl := valN_lt (((xs.drop at_).take n).drop (j - 1))
    rw [List.length_drop, hyl] at hvl
    have hv8 := pow256_le (show n - (j - 1) ≤ 8 by omega)
    have hv9 : (256 : Nat) ^ 8 = 18446744073709551616 := by decide
    have hvd : valN (((xs.drop at_).take n).drop (j - 1)) = x1.toNat + 256 * valN (((xs.drop at_).take n).drop j) := by rw [hdr]; rfl
    refine lRunS 2 [] [(24, .int .u64 (IntKind.u64.wrap ((IntKind.u64.wrap (((valN (((xs.drop at_).take n).drop j) : Nat) : Int) * 256)) + (IntKind.u64.wrap ((x1.toNat : Nat) : Int))))), (23, .int .u64 (IntKind.u64.wrap ((x1.toNat : Nat) : Int)))] [] (by kernel_rfl) (lOv (v := .int .u64 ((valN (((xs.drop at_).take n).drop (j - 1)) : Nat) : Int)) (v0 := .int .u64 (IntKind.u64.wrap ((IntKind.u64.wrap (((valN (((xs.drop at_).take n).drop j) : Nat) : Int) * 256)) + (IntKind.u64.wrap ((x1.toNat : Nat) : Int))))) 24 (congrArg (Value.int .u64) ((readStep (by omega)).trans (by rw [hvd]))) (by kernel_rfl) (lRunS 1 [] [(7, .int .u64 ((valN (((xs.drop at_).take n).drop (j - 1)) : Nat) : Int))] [] (by kernel_rfl) (lEnd (sEnd (sReg ?_)))))
    refine lRunS 2 [] [(14, .int .i64 (IntKind.i64.wrap (((j : Int) - 1) - 1))), (13, .int .i64 ((j : Int) - 1))] [] (by kernel_rfl) (lOv 14 (iw (x := ((j : Int) - 1) - 1) (by omega)) (by kernel_rfl) (lRunS 1 [] [(8, .int .i64 (((j : Int) - 1) - 1))] [] (by kernel_rfl) (lEnd ?_)))
    refine sOv (v := .int .i64 (((j - 1 : Nat) : Int) - 1)) (v0 := .int .i64 (((j : Int) - 1) - 1)) 8 (congrArg (Value.int .i64) (by omega)) (by kernel_rfl) ?_
    exact sAgain (j - 1) (by omega) (by first | omega | (simp only []; omega)) (by kernel_rfl) rfl
  · refine sExit (by kernel_rfl) (sSeq (rRunS [] [(6, .int .u64 ((valN (((xs.drop at_).take n).drop j) : Nat) : Int)), (25, .int .u64 ((valN (((xs.drop at_).take n).drop j) : Nat) : Int))] [] (by kernel_rfl) (sRet ?_)))
    exact wRet () (0, 0) [] (.int .u64 ((valN (((xs.drop at_).take n).drop j) : Nat) : Int)) [.tmp 6] rfl (by kernel_rfl) (congrArg (Value.int .u64) (by rw [show j = 0 by omega]; rfl)) trivial (fun _ h => h)

theorem c_sumS45 (W : World) (base : List Blk) {D : List Blk} {qb qo : Nat} {xs : List UInt8} (m c : Nat) (hS : Src W D qb qo xs) (hm : xs.length = m) (hmx : m ≤ 1000000) : CP Tryd.prog W base 45 #[.slice (some ⟨qb, qo, none⟩) m c] [D] (.int .u32 ((sumB xs : Nat) : Int)) := by
  intro F
  refine ctIntro Tryd.func45 rfl rfl (by kernel_rfl) ?_
  refine sSeq (rRunS [] [(2, .int .u32 0)] [] (by kernel_rfl) (sSeq (rRunS [] [(3, .int .u32 7)] [] (by kernel_rfl) (sSeq (sSeq ?_)))))
  refine rRunS [] [(8, .int .i64 0), (7, .int .i64 (m : Int)), (6, .slice (some ⟨qb, qo, none⟩) m c)] [] (by kernel_rfl) (sBlock ?_)
  refine sOv (v := .int .u32 ((sumB (xs.take 0) : Nat) : Int)) (v0 := .int .u32 7) 3 rfl (by kernel_rfl) ?_
  refine sLoop (fun (i : Nat) => [(8, .int .i64 (i : Int)), (7, .int .i64 (m : Int)), (6, .slice (some ⟨qb, qo, none⟩) m c), (3, .int .u32 ((sumB (xs.take i) : Nat) : Int)), (0, .slice (some ⟨qb, qo, none⟩) m c)]) (fun (i : Nat) => [D, F]) (fun (i : Nat) => i ≤ m) (fun (i : Nat) => m - i) 0 (by omega) (by kernel_rfl) rfl ?_
  rintro i hi
  refine sSeq (rRunS [] [(9, .bool (decide ((i : Int) < (m : Int))))] [] (by kernel_rfl) (sSeq ?_))
  refine sIfP (bpD ((i : Int) < (m : Int))) (by kernel_rfl) (fun h1 => ?_) (fun h1 => ?_)
  · refine sSkip (sSeq (sBlock (sSeq (sReg (lR (u := .pointer (some ⟨qb, qo + i * 1, none⟩)) (runIndex (T := 40) (E := 5) (n := m) (c := c) (b := qb) (o := qo) (k := 1) (ik := .i64) i (by kernel_rfl) (by kernel_rfl) (by omega)) (by kernel_rfl) (by kernel_rfl) (by kernel_rfl) ?_)))))
    obtain ⟨x1, hx1⟩ : ∃ x, xs[i]? = some x := ⟨_, List.getElem?_eq_getElem (by (try simp only [List.length_set, List.length_append, List.length_replicate, List.length_cons, List.length_nil]); omega)⟩
    refine lR (u := .int .u8 ((x1.toNat : Nat) : Int)) (runLoadSrc (T := 5) (p := qo + i * 1) (x := x1) hS 0 (by kernel_rfl) hx1 (by omega) (by kernel_rfl)) (by kernel_rfl) (by kernel_rfl) (by kernel_rfl) (lRunS 1 [] [(5, .int .u8 ((x1.toNat : Nat) : Int))] [] (by kernel_rfl) (lEnd (sReg (lRunS 5 [] [(16, .int .u32 (IntKind.u32.wrap ((IntKind.u32.wrap (((sumB (xs.take i) : Nat) : Int) * 33)) + (IntKind.u32.wrap ((x1.toNat : Nat) : Int))))), (15, .int .u32 (IntKind.u32.wrap ((x1.toNat : Nat) : Int))), (14, .int .u8 ((x1.toNat : Nat) : Int)), (13, .int .u32 (IntKind.u32.wrap (((sumB (xs.take i) : Nat) : Int) * 33))), (12, .int .u32 ((sumB (xs.take i) : Nat) : Int))] [] (by kernel_rfl) (lOv (v := .int .u32 ((sumB (xs.take (i + 1)) : Nat) : Int)) (v0 := .int .u32 (IntKind.u32.wrap ((IntKind.u32.wrap (((sumB (xs.take i) : Nat) : Int) * 33)) + (IntKind.u32.wrap ((x1.toNat : Nat) : Int))))) 16 (congrArg (Value.int .u32) ((sumStep _ _).trans (by rw [sumB_take hx1]))) (by kernel_rfl) ?_)))))
    refine lRunS 1 [] [(3, .int .u32 ((sumB (xs.take (i + 1)) : Nat) : Int))] [] (by kernel_rfl) (lEnd (sEnd (sReg (lRunS 1 [] [(17, .int .i64 (IntKind.i64.wrap ((i : Int) + 1)))] [] (by kernel_rfl) (lOv 17 (iw (x := (i : Int) + 1) (by omega)) (by kernel_rfl) ?_)))))
    refine lRunS 1 [] [(8, .int .i64 ((i : Int) + 1))] [] (by kernel_rfl) (lEnd ?_)
    exact sAgain (i + 1) (by omega) (by first | omega | (simp only []; omega)) (by kernel_rfl) rfl
  · refine sExit (by kernel_rfl) (sSeq (rRunS [] [(2, .int .u32 ((sumB (xs.take i) : Nat) : Int)), (18, .int .u32 ((sumB (xs.take i) : Nat) : Int))] [] (by kernel_rfl) (sRet ?_)))
    have hil : xs.take i = xs := by rw [show i = xs.length by omega, List.take_length]
    exact wRet () (0, 0) [] (.int .u32 ((sumB (xs.take i) : Nat) : Int)) [.tmp 2] rfl (by kernel_rfl) (congrArg (Value.int .u32) (by rw [hil])) trivial (fun _ h => h)

theorem c_sumS35 (W : World) (base : List Blk) {D : List Blk} {qb qo : Nat} {xs : List UInt8} (m c : Nat) (hS : Src W D qb qo xs) (hm : xs.length = m) (hmx : m ≤ 1000000) : CP Tryd.prog W base 35 #[.slice (some ⟨qb, qo, none⟩) m c] [D] (.int .u64 ((sumB xs : Nat) : Int)) := by
  intro F
  refine ctIntro Tryd.func35 rfl rfl (by kernel_rfl) ?_
  refine sSeq (rRunS [] [(2, .int .u64 0)] [] (by kernel_rfl) (sSeq (rRunS [] [(3, .int .u32 7)] [] (by kernel_rfl) (sSeq (sSeq ?_)))))
  refine rRunS [] [(4, .int .i64 0)] [] (by kernel_rfl) (sBlock ?_)
  refine sOv (v := .int .u32 ((sumB (xs.take 0) : Nat) : Int)) (v0 := .int .u32 7) 3 rfl (by kernel_rfl) ?_
  refine sLoop (fun (i : Nat) => [(4, .int .i64 (i : Int)), (3, .int .u32 ((sumB (xs.take i) : Nat) : Int)), (0, .slice (some ⟨qb, qo, none⟩) m c)]) (fun (i : Nat) => [D, F]) (fun (i : Nat) => i ≤ m) (fun (i : Nat) => m - i) 0 (by omega) (by kernel_rfl) rfl ?_
  rintro i hi
  refine sSeq (sSeq (rRunS [] [(8, .bool (decide ((i : Int) < (m : Int)))), (7, .int .i64 (m : Int)), (6, .slice (some ⟨qb, qo, none⟩) m c), (5, .int .i64 (i : Int))] [] (by kernel_rfl) ?_))
  refine sIfP (bpD ((i : Int) < (m : Int))) (by kernel_rfl) (fun h1 => ?_) (fun h1 => ?_)
  · refine sSkip (sSeq (sBlock (sReg (lRunS 4 [] [(14, .int .i64 (i : Int)), (13, .slice (some ⟨qb, qo, none⟩) m c), (12, .int .u32 (IntKind.u32.wrap (((sumB (xs.take i) : Nat) : Int) * 33))), (11, .int .u32 ((sumB (xs.take i) : Nat) : Int))] [] (by kernel_rfl) (lR (u := .pointer (some ⟨qb, qo + i * 1, none⟩)) (runIndex (T := 40) (E := 5) (n := m) (c := c) (b := qb) (o := qo) (k := 1) (ik := .i64) i (by kernel_rfl) (by kernel_rfl) (by omega)) (by kernel_rfl) (by kernel_rfl) (by kernel_rfl) ?_)))))
    obtain ⟨x1, hx1⟩ : ∃ x, xs[i]? = some x := ⟨_, List.getElem?_eq_getElem (by (try simp only [List.length_set, List.length_append, List.length_replicate, List.length_cons, List.length_nil]); omega)⟩
    refine lR (u := .int .u8 ((x1.toNat : Nat) : Int)) (runLoadSrc (T := 5) (p := qo + i * 1) (x := x1) hS 0 (by kernel_rfl) hx1 (by omega) (by kernel_rfl)) (by kernel_rfl) (by kernel_rfl) (by kernel_rfl) (lRunS 2 [] [(18, .int .u32 (IntKind.u32.wrap ((IntKind.u32.wrap (((sumB (xs.take i) : Nat) : Int) * 33)) + (IntKind.u32.wrap ((x1.toNat : Nat) : Int))))), (17, .int .u32 (IntKind.u32.wrap ((x1.toNat : Nat) : Int)))] [] (by kernel_rfl) (lOv (v := .int .u32 ((sumB (xs.take (i + 1)) : Nat) : Int)) (v0 := .int .u32 (IntKind.u32.wrap ((IntKind.u32.wrap (((sumB (xs.take i) : Nat) : Int) * 33)) + (IntKind.u32.wrap ((x1.toNat : Nat) : Int))))) 18 (congrArg (Value.int .u32) ((sumStep _ _).trans (by rw [sumB_take hx1]))) (by kernel_rfl) (lRunS 1 [] [(3, .int .u32 ((sumB (xs.take (i + 1)) : Nat) : Int))] [] (by kernel_rfl) (lEnd (sEnd ?_)))))
    refine sReg (lRunS 2 [] [(10, .int .i64 (IntKind.i64.wrap ((i : Int) + 1))), (9, .int .i64 (i : Int))] [] (by kernel_rfl) (lOv 10 (iw (x := (i : Int) + 1) (by omega)) (by kernel_rfl) (lRunS 1 [] [(4, .int .i64 ((i : Int) + 1))] [] (by kernel_rfl) (lEnd ?_))))
    exact sAgain (i + 1) (by omega) (by first | omega | (simp only []; omega)) (by kernel_rfl) rfl
  · refine sExit (by kernel_rfl) (sSeq (rRunS [] [(2, .int .u64 (IntKind.u64.wrap ((sumB (xs.take i) : Nat) : Int))), (20, .int .u64 (IntKind.u64.wrap ((sumB (xs.take i) : Nat) : Int))), (19, .int .u32 ((sumB (xs.take i) : Nat) : Int))] [] (by kernel_rfl) (sRet ?_)))
    have hil : xs.take i = xs := by rw [show i = xs.length by omega, List.take_length]
    exact wRet () (0, 0) [] (.int .u64 (IntKind.u64.wrap ((sumB (xs.take i) : Nat) : Int))) [.tmp 2] rfl (by kernel_rfl) (congrArg (Value.int .u64) (by rw [hil, wrap_u64]; have := sumB_lt xs; omega)) trivial (fun _ h => h)

end Go.Proofs.YtljfjiaiachbfaaDoor
