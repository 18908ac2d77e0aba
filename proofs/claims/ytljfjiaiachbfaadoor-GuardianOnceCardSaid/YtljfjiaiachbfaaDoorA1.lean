/- The walks of named, number and sum, of the program and of the reference. -/
import Derived.Test.YtljfjiaiachbfaaDoorProg
import Derived.Test.YtljfjiaiachbfaaDoorM2
namespace Go.Proofs.YtljfjiaiachbfaaDoor
open Go.Sx Go.Sx.Gd
set_option maxRecDepth 100000
set_option linter.unusedSimpArgs false
set_option linter.unusedVariables false
theorem c_named28 (W : World) (base : List Blk) (k : ByteArray) : CP Tryd.prog W base 28 #[.string k] [] (.int .i64 (namedE k)) := by
  intro F
  refine ctIntro Tryd.func28 rfl rfl (by kernel_rfl) ?_
  refine sSeq (rRunS [] [(2, .int .i64 0)] [] (by kernel_rfl) (sSeq (sBlock (sSeq (rRunS [] [(3, .bool (k.toList == (⟨#[]⟩ : ByteArray).toList)), (5, .bool (k.toList == (⟨#[]⟩ : ByteArray).toList)), (4, .string k)] [] (by kernel_rfl) ?_)))))
  refine sIfP (bpS k (⟨#[]⟩ : ByteArray)) (by kernel_rfl) (fun h1 => ?_) (fun h1 => ?_)
  · refine sSeq (rRunS [] [(2, .int .i64 9)] [] (by kernel_rfl) (sRet ?_))
    exact wRet () (0, 0) [] (.int .i64 9) [.tmp 2] rfl (by kernel_rfl) (congrArg (Value.int .i64) (by unfold namedE; first | rw [if_pos (by assumption)] | rw [if_neg (by assumption), if_pos (by omega)] | rw [if_neg (by assumption), if_neg (by omega)])) trivial (fun _ h => h)
  · refine sSeq (rRunS [] [(6, .bool (decide ((k.size : Int) > (64 : Int)))), (9, .bool (decide ((k.size : Int) > (64 : Int)))), (8, .int .i64 (k.size : Int)), (7, .string k)] [] (by kernel_rfl) ?_)
    refine sIfP (bpD ((k.size : Int) > (64 : Int))) (by kernel_rfl) (fun h2 => ?_) (fun h2 => ?_)
    · refine sSeq (rRunS [] [(2, .int .i64 21)] [] (by kernel_rfl) (sRet ?_))
      exact wRet () (0, 0) [] (.int .i64 21) [.tmp 2] rfl (by kernel_rfl) (congrArg (Value.int .i64) (by unfold namedE; first | rw [if_pos (by assumption)] | rw [if_neg (by assumption), if_pos (by omega)] | rw [if_neg (by assumption), if_neg (by omega)])) trivial (fun _ h => h)
    · refine sSkip (sEnd (sSeq (rRunS [] [(2, .int .i64 0)] [] (by kernel_rfl) (sRet ?_))))
      exact wRet () (0, 0) [] (.int .i64 0) [.tmp 2] rfl (by kernel_rfl) (congrArg (Value.int .i64) (by unfold namedE; first | rw [if_pos (by assumption)] | rw [if_neg (by assumption), if_pos (by omega)] | rw [if_neg (by assumption), if_neg (by omega)])) trivial (fun _ h => h)

theorem c_named30 (W : World) (base : List Blk) (k : ByteArray) : CP Tryd.prog W base 30 #[.string k] [] (.int .i64 (namedE k)) := by
  intro F
  refine ctIntro Tryd.func30 rfl rfl (by kernel_rfl) ?_
  refine sSeq (rRunS [] [(2, .int .i64 0)] [] (by kernel_rfl) (sSeq (sSeq (rRunS [] [(4, .bool (k.toList == (⟨#[]⟩ : ByteArray).toList)), (3, .string k)] [] (by kernel_rfl) ?_))))
  refine sIfP (bpS k (⟨#[]⟩ : ByteArray)) (by kernel_rfl) (fun h1 => ?_) (fun h1 => ?_)
  · refine sSeq (rRunS [] [(2, .int .i64 9)] [] (by kernel_rfl) (sRet ?_))
    exact wRet () (0, 0) [] (.int .i64 9) [.tmp 2] rfl (by kernel_rfl) (congrArg (Value.int .i64) (by unfold namedE; first | rw [if_pos (by assumption)] | rw [if_neg (by assumption), if_pos (by omega)] | rw [if_neg (by assumption), if_neg (by omega)])) trivial (fun _ h => h)
  · refine sSkip (sSeq (sSeq (rRunS [] [(7, .bool (decide ((k.size : Int) > (64 : Int)))), (6, .int .i64 (k.size : Int)), (5, .string k)] [] (by kernel_rfl) ?_)))
    refine sIfP (bpD ((k.size : Int) > (64 : Int))) (by kernel_rfl) (fun h2 => ?_) (fun h2 => ?_)
    · refine sSeq (rRunS [] [(2, .int .i64 21)] [] (by kernel_rfl) (sRet ?_))
      exact wRet () (0, 0) [] (.int .i64 21) [.tmp 2] rfl (by kernel_rfl) (congrArg (Value.int .i64) (by unfold namedE; first | rw [if_pos (by assumption)] | rw [if_neg (by assumption), if_pos (by omega)] | rw [if_neg (by assumption), if_neg (by omega)])) trivial (fun _ h => h)
    · refine sSkip (sSeq (rRunS [] [(2, .int .i64 0)] [] (by kernel_rfl) (sRet ?_)))
      exact wRet () (0, 0) [] (.int .i64 0) [.tmp 2] rfl (by kernel_rfl) (congrArg (Value.int .i64) (by unfold namedE; first | rw [if_pos (by assumption)] | rw [if_neg (by assumption), if_pos (by omega)] | rw [if_neg (by assumption), if_neg (by omega)])) trivial (fun _ h => h)

theorem c_sum45 (W : World) (base : List Blk) (d : SD) (xs : List UInt8) (m : Nat) (hm : xs.length = m) (hd : d.ok 1 m) (hx : m ≤ 1000000) :
    CP Tryd.prog W base 45 #[.slice d.a m d.cap] [SD.blk 5 encByte d xs] (.int .u32 ((sumB xs : Nat) : Int)) := by
  intro F
  refine ctIntro Tryd.func45 rfl rfl (by kernel_rfl) ?_
  refine sSeq (rRunS [] [(2, .int .u32 0)] [] (by kernel_rfl) (sSeq (rRunS [] [(3, .int .u32 7)] [] (by kernel_rfl) (sSeq (sSeq ?_)))))
  refine rRunS [] [(8, .int .i64 0), (7, .int .i64 (m : Int)), (6, .slice d.a m d.cap)] [] (by kernel_rfl) (sBlock ?_)
  refine sOv (v := .int .u32 ((sumB (xs.take 0) : Nat) : Int)) (v0 := .int .u32 7) 3 rfl (by kernel_rfl) ?_
  refine sLoop (fun (i : Nat) => [(8, .int .i64 (i : Int)), (7, .int .i64 (m : Int)), (6, .slice d.a m d.cap), (3, .int .u32 ((sumB (xs.take i) : Nat) : Int)), (0, .slice d.a m d.cap)]) (fun (i : Nat) => [SD.blk 5 encByte d xs, F]) (fun (i : Nat) => i ≤ m) (fun (i : Nat) => m - i) 0 (by omega) (by kernel_rfl) rfl ?_
  rintro i hi
  refine sSeq (rRunS [] [(9, .bool (decide ((i : Int) < (m : Int))))] [] (by kernel_rfl) (sSeq ?_))
  refine sIfP (bpD ((i : Int) < (m : Int))) (by kernel_rfl) (fun h1 => ?_) (fun h1 => ?_)
  · refine sSkip (sSeq (sBlock (sSeq (sReg ?_))))
    obtain ⟨q1, hq1⟩ := sd_at hd (by omega)
    refine lR (u := .pointer (some ⟨q1, i * 1, none⟩)) (runIndexD0 (T := 40) (E := 5) (n := m) (c := d.cap) (b := q1) (k := 1) (ik := .i64) i hq1 (by kernel_rfl) (by kernel_rfl) (by omega)) (by kernel_rfl) (by kernel_rfl) (by kernel_rfl) ?_
    obtain ⟨x2, hx2⟩ : ∃ x, xs[i]? = some x := ⟨_, List.getElem?_eq_getElem (by (try simp only [List.length_set, List.length_append, List.length_replicate, List.length_cons, List.length_nil]); omega)⟩
    refine lR (u := .int .u8 ((x2.toNat : Nat) : Int)) (runLoadE1 (f := encByte) (T := 5) (b := q1) (T' := 5) (rest := d.rest) (v := .int .u8 ((x2.toNat : Nat) : Int)) (fun _ => rfl) (1, 0) (sd_at0 hq1 0 (by kernel_rfl)) hx2 rfl (by kernel_rfl)) (by kernel_rfl) (by kernel_rfl) (by kernel_rfl) (lRunS 1 [] [(5, .int .u8 ((x2.toNat : Nat) : Int))] [] (by kernel_rfl) (lEnd (sReg (lRunS 5 [] [(16, .int .u32 (IntKind.u32.wrap ((IntKind.u32.wrap (((sumB (xs.take i) : Nat) : Int) * 33)) + (IntKind.u32.wrap ((x2.toNat : Nat) : Int))))), (15, .int .u32 (IntKind.u32.wrap ((x2.toNat : Nat) : Int))), (14, .int .u8 ((x2.toNat : Nat) : Int)), (13, .int .u32 (IntKind.u32.wrap (((sumB (xs.take i) : Nat) : Int) * 33))), (12, .int .u32 ((sumB (xs.take i) : Nat) : Int))] [] (by kernel_rfl) (lOv (v := .int .u32 ((sumB (xs.take (i + 1)) : Nat) : Int)) (v0 := .int .u32 (IntKind.u32.wrap ((IntKind.u32.wrap (((sumB (xs.take i) : Nat) : Int) * 33)) + (IntKind.u32.wrap ((x2.toNat : Nat) : Int))))) 16 (congrArg (Value.int .u32) ((sumStep _ _).trans (by rw [sumB_take hx2]))) (by kernel_rfl) ?_)))))
    refine lRunS 1 [] [(3, .int .u32 ((sumB (xs.take (i + 1)) : Nat) : Int))] [] (by kernel_rfl) (lEnd (sEnd (sReg (lRunS 1 [] [(17, .int .i64 (IntKind.i64.wrap ((i : Int) + 1)))] [] (by kernel_rfl) (lOv 17 (iw (x := (i : Int) + 1) (by omega)) (by kernel_rfl) ?_)))))
    refine lRunS 1 [] [(8, .int .i64 ((i : Int) + 1))] [] (by kernel_rfl) (lEnd ?_)
    exact sAgain (i + 1) (by omega) (by first | omega | (simp only []; omega)) (by kernel_rfl) rfl
  · refine sExit (by kernel_rfl) (sSeq (rRunS [] [(2, .int .u32 ((sumB (xs.take i) : Nat) : Int)), (18, .int .u32 ((sumB (xs.take i) : Nat) : Int))] [] (by kernel_rfl) (sRet ?_)))
    have hil : xs.take i = xs := by rw [show i = xs.length by omega, List.take_length]
    exact wRet () (0, 0) [] (.int .u32 ((sumB (xs.take i) : Nat) : Int)) [.tmp 2] rfl (by kernel_rfl) (congrArg (Value.int .u32) (by rw [hil])) trivial (fun _ h => h)

theorem c_sum35 (W : World) (base : List Blk) (d : SD) (xs : List UInt8) (m : Nat) (hm : xs.length = m) (hd : d.ok 1 m) (hx : m ≤ 1000000) :
    CP Tryd.prog W base 35 #[.slice d.a m d.cap] [SD.blk 5 encByte d xs] (.int .u64 ((sumB xs : Nat) : Int)) := by
  intro F
  refine ctIntro Tryd.func35 rfl rfl (by kernel_rfl) ?_
  refine sSeq (rRunS [] [(2, .int .u64 0)] [] (by kernel_rfl) (sSeq (rRunS [] [(3, .int .u32 7)] [] (by kernel_rfl) (sSeq (sSeq ?_)))))
  refine rRunS [] [(4, .int .i64 0)] [] (by kernel_rfl) (sBlock ?_)
  refine sOv (v := .int .u32 ((sumB (xs.take 0) : Nat) : Int)) (v0 := .int .u32 7) 3 rfl (by kernel_rfl) ?_
  refine sLoop (fun (i : Nat) => [(4, .int .i64 (i : Int)), (3, .int .u32 ((sumB (xs.take i) : Nat) : Int)), (0, .slice d.a m d.cap)]) (fun (i : Nat) => [SD.blk 5 encByte d xs, F]) (fun (i : Nat) => i ≤ m) (fun (i : Nat) => m - i) 0 (by omega) (by kernel_rfl) rfl ?_
  rintro i hi
  refine sSeq (sSeq (rRunS [] [(8, .bool (decide ((i : Int) < (m : Int)))), (7, .int .i64 (m : Int)), (6, .slice d.a m d.cap), (5, .int .i64 (i : Int))] [] (by kernel_rfl) ?_))
  refine sIfP (bpD ((i : Int) < (m : Int))) (by kernel_rfl) (fun h1 => ?_) (fun h1 => ?_)
  · refine sSkip (sSeq (sBlock (sReg (lRunS 4 [] [(14, .int .i64 (i : Int)), (13, .slice d.a m d.cap), (12, .int .u32 (IntKind.u32.wrap (((sumB (xs.take i) : Nat) : Int) * 33))), (11, .int .u32 ((sumB (xs.take i) : Nat) : Int))] [] (by kernel_rfl) ?_))))
    obtain ⟨q1, hq1⟩ := sd_at hd (by omega)
    refine lR (u := .pointer (some ⟨q1, i * 1, none⟩)) (runIndexD0 (T := 40) (E := 5) (n := m) (c := d.cap) (b := q1) (k := 1) (ik := .i64) i hq1 (by kernel_rfl) (by kernel_rfl) (by omega)) (by kernel_rfl) (by kernel_rfl) (by kernel_rfl) ?_
    obtain ⟨x2, hx2⟩ : ∃ x, xs[i]? = some x := ⟨_, List.getElem?_eq_getElem (by (try simp only [List.length_set, List.length_append, List.length_replicate, List.length_cons, List.length_nil]); omega)⟩
    refine lR (u := .int .u8 ((x2.toNat : Nat) : Int)) (runLoadE1 (f := encByte) (T := 5) (b := q1) (T' := 5) (rest := d.rest) (v := .int .u8 ((x2.toNat : Nat) : Int)) (fun _ => rfl) (1, 0) (sd_at0 hq1 0 (by kernel_rfl)) hx2 rfl (by kernel_rfl)) (by kernel_rfl) (by kernel_rfl) (by kernel_rfl) (lRunS 2 [] [(18, .int .u32 (IntKind.u32.wrap ((IntKind.u32.wrap (((sumB (xs.take i) : Nat) : Int) * 33)) + (IntKind.u32.wrap ((x2.toNat : Nat) : Int))))), (17, .int .u32 (IntKind.u32.wrap ((x2.toNat : Nat) : Int)))] [] (by kernel_rfl) (lOv (v := .int .u32 ((sumB (xs.take (i + 1)) : Nat) : Int)) (v0 := .int .u32 (IntKind.u32.wrap ((IntKind.u32.wrap (((sumB (xs.take i) : Nat) : Int) * 33)) + (IntKind.u32.wrap ((x2.toNat : Nat) : Int))))) 18 (congrArg (Value.int .u32) ((sumStep _ _).trans (by rw [sumB_take hx2]))) (by kernel_rfl) (lRunS 1 [] [(3, .int .u32 ((sumB (xs.take (i + 1)) : Nat) : Int))] [] (by kernel_rfl) (lEnd (sEnd ?_)))))
    refine sReg (lRunS 2 [] [(10, .int .i64 (IntKind.i64.wrap ((i : Int) + 1))), (9, .int .i64 (i : Int))] [] (by kernel_rfl) (lOv 10 (iw (x := (i : Int) + 1) (by omega)) (by kernel_rfl) (lRunS 1 [] [(4, .int .i64 ((i : Int) + 1))] [] (by kernel_rfl) (lEnd ?_))))
    exact sAgain (i + 1) (by omega) (by first | omega | (simp only []; omega)) (by kernel_rfl) rfl
  · refine sExit (by kernel_rfl) (sSeq (rRunS [] [(2, .int .u64 (IntKind.u64.wrap ((sumB (xs.take i) : Nat) : Int))), (20, .int .u64 (IntKind.u64.wrap ((sumB (xs.take i) : Nat) : Int))), (19, .int .u32 ((sumB (xs.take i) : Nat) : Int))] [] (by kernel_rfl) (sRet ?_)))
    have hil : xs.take i = xs := by rw [show i = xs.length by omega, List.take_length]
    exact wRet () (0, 0) [] (.int .u64 (IntKind.u64.wrap ((sumB (xs.take i) : Nat) : Int))) [.tmp 2] rfl (by kernel_rfl) (congrArg (Value.int .u64) (by rw [hil, wrap_u64]; have := sumB_lt xs; omega)) trivial (fun _ h => h)

theorem c_num44 (W : World) (base : List Blk) (d : SD) (xs : List UInt8) (n : Int) (c m : Nat) (hm : xs.length = m) (hd : d.ok 1 m) (hx : m ≤ 1000000) (hc : c ≤ 8) :
    CF Tryd.prog W base 44 #[.slice d.a m d.cap, .int .i64 n, .int .i64 (c : Int)] [SD.blk 5 encByte d xs] (fun d1 : SD => .slice d1.a (m + c) d1.cap) (fun d1 => [SD.blk 5 encByte d1 (xs ++ numB n c)]) (fun d1 => d1.ok 1 (m + c)) := by
  intro F
  refine ctIntro Tryd.func44 rfl rfl (by kernel_rfl) ?_
  refine sSeq (rRunS [] [(6, .slice none 0 0)] [] (by kernel_rfl) (sSeq (sSeq (rRunS [] [(9, .int .i64 0), (8, .int .i64 (c : Int))] [] (by kernel_rfl) (sBlock ?_)))))
  refine sRe (its' := [SD.blk 5 encByte d (xs ++ numB n 0), F]) (by simp [numB]) ?_
  refine sLoop (fun (x_ : Nat × SD) => match x_ with | (i, d1) => [(9, .int .i64 (i : Int)), (8, .int .i64 (c : Int)), (1, .int .i64 n), (0, .slice d1.a (m + i) d1.cap)]) (fun (x_ : Nat × SD) => match x_ with | (i, d1) => [SD.blk 5 encByte d1 (xs ++ numB n i), F]) (fun (x_ : Nat × SD) => match x_ with | (i, d1) => i ≤ c ∧ d1.ok 1 (m + i)) (fun (x_ : Nat × SD) => match x_ with | (i, d1) => c - i) (0, d) ⟨by omega, hd⟩ (by kernel_rfl) rfl ?_
  rintro ⟨i, d1⟩ ⟨hi, hd1⟩
  refine sSeq (rRunS [] [(10, .bool (decide ((i : Int) < (c : Int))))] [] (by kernel_rfl) (sSeq ?_))
  refine sIfP (bpD ((i : Int) < (c : Int))) (by kernel_rfl) (fun h1 => ?_) (fun h1 => ?_)
  · refine sSkip (sSeq (sBlock (sSeq (rRunS [] [(7, .int .i64 (i : Int)), (11, .int .i64 (i : Int))] [] (by kernel_rfl) (sReg ?_)))))
    refine lRunS 5 [] [(16, .int .i64 (IntKind.i64.wrap (8 * (i : Int)))), (15, .int .i64 (i : Int)), (14, .int .u64 (IntKind.u64.wrap n)), (13, .int .i64 n), (12, .slice d1.a (m + i) d1.cap)] [] (by kernel_rfl) (lOv 16 (iw (x := 8 * (i : Int)) (by omega)) (by kernel_rfl) (lR (u := .int .u64 ((IntKind.u64.wrap n).fdiv (2 ^ (8 * i)))) (runShr (T := 99) (o1 := (.tmp 14)) (o2 := (.tmp 16)) (k := .u64) (yk := .i64) (x := (IntKind.u64.wrap n)) (y := (8 * (i : Int))) (8 * i) (by omega) (show 8 * i ≤ 64 by omega)) (by kernel_rfl) (by kernel_rfl) (by kernel_rfl) (lRunS 1 [] [(18, .int .u8 (IntKind.u8.wrap ((IntKind.u64.wrap n).fdiv (2 ^ (8 * i)))))] [] (by kernel_rfl) (lOv (v := Extern.Stop.cell (byteAt n i)) (v0 := .int .u8 (IntKind.u8.wrap ((IntKind.u64.wrap n).fdiv (2 ^ (8 * i))))) 18 (byteP n i) (by kernel_rfl) ?_))))
    refine lRunN 1 [] (fun b1 => [(19, .slice (some ⟨b1, 0, none⟩) 1 1)]) (fun b1 => []) (fun b1 => .cells #[Extern.Stop.cell (byteAt n i)] 5) (fun b1 => []) (fun b1 => by kernel_rfl) (fun b1 => ?_)
    refine lX (u := fun d' : SD => .slice d'.a ((m + i) + 1) d'.cap) (runAppend1 (t := 40) (ty := 40) (b2 := b1) (cs := #[Extern.Stop.cell (byteAt n i)]) (T2 := 5) (k := 1) (e := 5) (by_ := 1) (z := [.int .u8 0]) (f := encByte) (fun _ => rfl) d1 (xs ++ numB n i) (byteAt n i) (m + i) 0 2 (by kernel_rfl) (by kernel_rfl) rfl rfl (by kernel_rfl) (by rw [List.length_append, numB_len, hm]) hd1 (by kernel_rfl) (by kernel_rfl) rfl (by omega) (by omega)) (by kernel_rfl) (by kernel_rfl) (fun _ => by kernel_rfl) ?_
    rintro d2 okd2
    refine lRunS 1 [] [(0, .slice d2.a ((m + i) + 1) d2.cap)] [] (by kernel_rfl) (lEnd (sEnd (sReg (lRunS 1 [] [(21, .int .i64 (IntKind.i64.wrap ((i : Int) + 1)))] [] (by kernel_rfl) (lOv 21 (iw (x := (i : Int) + 1) (by omega)) (by kernel_rfl) ?_)))))
    refine lRunS 1 [] [(9, .int .i64 ((i : Int) + 1))] [] (by kernel_rfl) (lEnd ?_)
    refine sRe (its' := [SD.blk 5 encByte d2 (xs ++ numB n (i + 1)), F, [(b1, .cells #[Extern.Stop.cell (byteAt n i)] 5)]]) (by rw [numB_succ, List.append_assoc]; rfl) ?_
    refine sOv (v := .slice d2.a (m + (i + 1)) d2.cap) (v0 := .slice d2.a ((m + i) + 1) d2.cap) 0 rfl (by kernel_rfl) ?_
    exact sPick [0, 1] (by kernel_rfl) (by kernel_rfl) (sAgain (i + 1, d2) ⟨by omega, okd2⟩ (by first | omega | (simp only []; omega)) (by kernel_rfl) rfl)
  · refine sExit (by kernel_rfl) (sSeq (rRunS [] [(6, .slice d1.a (m + i) d1.cap), (22, .slice d1.a (m + i) d1.cap)] [] (by kernel_rfl) (sRet ?_)))
    have hic : i = c := by omega
    refine wfRe (its' := [SD.blk 5 encByte d1 (xs ++ numB n c), F]) (by rw [hic]) ?_
    exact wRet d1 (0, 0) [] (.slice d1.a (m + i) d1.cap) [.tmp 6] rfl (by kernel_rfl) (by rw [hic]) (hic ▸ hd1) (fun _ h => h)

theorem c_num46 (W : World) (base : List Blk) (d : SD) (xs : List UInt8) (n : Int) (c m : Nat) (hm : xs.length = m) (hd : d.ok 1 m) (hx : m ≤ 1000000) (hc : c ≤ 8) :
    CF Tryd.prog W base 46 #[.slice d.a m d.cap, .int .u64 (IntKind.u64.wrap n), .int .i64 (c : Int)] [SD.blk 5 encByte d xs] (fun d1 : SD => .slice d1.a (m + c) d1.cap) (fun d1 => [SD.blk 5 encByte d1 (xs ++ numB n c)]) (fun d1 => d1.ok 1 (m + c)) := by
  intro F
  refine ctIntro Tryd.func46 rfl rfl (by kernel_rfl) ?_
  refine sSeq (rRunS [] [(6, .slice none 0 0)] [] (by kernel_rfl) (sSeq (sSeq (rRunS [] [(7, .int .i64 0)] [] (by kernel_rfl) (sBlock ?_)))))
  refine sRe (its' := [SD.blk 5 encByte d (xs ++ numB n 0), F]) (by simp [numB]) ?_
  refine sOv (v := .int .u64 ((xAt n 0 : Nat) : Int)) (v0 := .int .u64 (IntKind.u64.wrap n)) 1 (congrArg (Value.int .u64) (xAt_zero n)) (by kernel_rfl) ?_
  refine sLoop (fun (x_ : Nat × SD) => match x_ with | (i, d1) => [(7, .int .i64 (i : Int)), (2, .int .i64 (c : Int)), (1, .int .u64 ((xAt n i : Nat) : Int)), (0, .slice d1.a (m + i) d1.cap)]) (fun (x_ : Nat × SD) => match x_ with | (i, d1) => [SD.blk 5 encByte d1 (xs ++ numB n i), F]) (fun (x_ : Nat × SD) => match x_ with | (i, d1) => i ≤ c ∧ d1.ok 1 (m + i)) (fun (x_ : Nat × SD) => match x_ with | (i, d1) => c - i) (0, d) ⟨by omega, hd⟩ (by kernel_rfl) rfl ?_
  rintro ⟨i, d1⟩ ⟨hi, hd1⟩
  refine sSeq (sSeq (rRunS [] [(10, .bool (decide ((i : Int) < (c : Int)))), (9, .int .i64 (c : Int)), (8, .int .i64 (i : Int))] [] (by kernel_rfl) ?_))
  refine sIfP (bpD ((i : Int) < (c : Int))) (by kernel_rfl) (fun h1 => ?_) (fun h1 => ?_)
  · refine sSkip (sSeq (sBlock (sSeq (sReg (lRunS 3 [] [(15, .int .u8 (IntKind.u8.wrap ((xAt n i : Nat) : Int))), (14, .int .u64 ((xAt n i : Nat) : Int)), (13, .slice d1.a (m + i) d1.cap)] [] (by kernel_rfl) ?_)))))
    refine lOv (v := Extern.Stop.cell (byteAt n i)) (v0 := .int .u8 (IntKind.u8.wrap ((xAt n i : Nat) : Int))) 15 (byteR n i) (by kernel_rfl) ?_
    refine lRunN 1 [] (fun b1 => [(16, .slice (some ⟨b1, 0, none⟩) 1 1)]) (fun b1 => []) (fun b1 => .cells #[Extern.Stop.cell (byteAt n i)] 5) (fun b1 => []) (fun b1 => by kernel_rfl) (fun b1 => ?_)
    refine lX (u := fun d' : SD => .slice d'.a ((m + i) + 1) d'.cap) (runAppend1 (t := 40) (ty := 40) (b2 := b1) (cs := #[Extern.Stop.cell (byteAt n i)]) (T2 := 5) (k := 1) (e := 5) (by_ := 1) (z := [.int .u8 0]) (f := encByte) (fun _ => rfl) d1 (xs ++ numB n i) (byteAt n i) (m + i) 0 2 (by kernel_rfl) (by kernel_rfl) rfl rfl (by kernel_rfl) (by rw [List.length_append, numB_len, hm]) hd1 (by kernel_rfl) (by kernel_rfl) rfl (by omega) (by omega)) (by kernel_rfl) (by kernel_rfl) (fun _ => by kernel_rfl) ?_
    rintro d2 okd2
    refine lRunS 1 [] [(0, .slice d2.a ((m + i) + 1) d2.cap)] [] (by kernel_rfl) (lEnd (sReg (lRunS 2 [] [(19, .int .u64 (IntKind.u64.wrap (((xAt n i : Nat) : Int).tdiv 256))), (18, .int .u64 ((xAt n i : Nat) : Int))] [] (by kernel_rfl) (lOv (v := .int .u64 ((xAt n (i + 1) : Nat) : Int)) (v0 := .int .u64 (IntKind.u64.wrap (((xAt n i : Nat) : Int).tdiv 256))) 19 (congrArg (Value.int .u64) (xAt_succ n i)) (by kernel_rfl) (lRunS 1 [] [(1, .int .u64 ((xAt n (i + 1) : Nat) : Int))] [] (by kernel_rfl) ?_)))))
    refine lEnd (sEnd (sReg (lRunS 2 [] [(12, .int .i64 (IntKind.i64.wrap ((i : Int) + 1))), (11, .int .i64 (i : Int))] [] (by kernel_rfl) (lOv 12 (iw (x := (i : Int) + 1) (by omega)) (by kernel_rfl) (lRunS 1 [] [(7, .int .i64 ((i : Int) + 1))] [] (by kernel_rfl) ?_)))))
    refine lEnd ?_
    refine sRe (its' := [SD.blk 5 encByte d2 (xs ++ numB n (i + 1)), F, [(b1, .cells #[Extern.Stop.cell (byteAt n i)] 5)]]) (by rw [numB_succ, List.append_assoc]; rfl) ?_
    refine sOv (v := .slice d2.a (m + (i + 1)) d2.cap) (v0 := .slice d2.a ((m + i) + 1) d2.cap) 0 rfl (by kernel_rfl) ?_
    exact sPick [0, 1] (by kernel_rfl) (by kernel_rfl) (sAgain (i + 1, d2) ⟨by omega, okd2⟩ (by first | omega | (simp only []; omega)) (by kernel_rfl) rfl)
  · refine sExit (by kernel_rfl) (sSeq (rRunS [] [(6, .slice d1.a (m + i) d1.cap), (20, .slice d1.a (m + i) d1.cap)] [] (by kernel_rfl) (sRet ?_)))
    have hic : i = c := by omega
    refine wfRe (its' := [SD.blk 5 encByte d1 (xs ++ numB n c), F]) (by rw [hic]) ?_
    exact wRet d1 (0, 0) [] (.slice d1.a (m + i) d1.cap) [.tmp 6] rfl (by kernel_rfl) (by rw [hic]) (hic ▸ hd1) (fun _ h => h)

end Go.Proofs.YtljfjiaiachbfaaDoor
