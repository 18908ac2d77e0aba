/- The walks of entry, of the program and of the reference. -/
import Derived.Test.YtljfjiaiachbfaaDoorProg
import Derived.Test.YtljfjiaiachbfaaDoorM2
import Derived.Test.YtljfjiaiachbfaaDoorA1
namespace Go.Proofs.YtljfjiaiachbfaaDoor
open Go.Sx Go.Sx.Gd
set_option maxRecDepth 100000
set_option linter.unusedSimpArgs false
set_option linter.unusedVariables false
theorem cell_len (k : ByteArray) : Value.int .u8 (IntKind.u8.wrap (k.size : Int)) = Extern.Stop.cell (UInt8.ofNat k.size) := by
  show _ = Value.int .u8 ((UInt8.ofNat k.size).toNat : Int)
  rw [wrap_u8, UInt8.toNat_ofNat']
  congr 1
theorem numB_key {k : ByteArray} (h : k.size ≤ 64) : numB (k.size : Int) 1 = [UInt8.ofNat k.size] := by
  have e : ((k.size : Int) % 18446744073709551616).toNat = k.size := by omega
  simp only [numB, List.range_succ, List.range_zero, List.nil_append, List.map_cons, List.map_nil, byteAt, Nat.pow_zero, Nat.div_one, e]

theorem c_entry29 (W : World) (base : List Blk) (r : Req) (hk : r.key.size ≤ 64) :
    CF Tryd.prog W base 29 #[.agg #[.int .i64 r.client, .int .i64 r.seq, .string r.key, .int .i64 r.amount]] [] (fun d : SD => .slice d.a (entB r).length d.cap) (fun d => [SD.blk 5 encByte d (entB r)]) (fun d => d.ok 1 (entB r).length) := by
  intro F
  refine ctIntro Tryd.func29 rfl rfl (by kernel_rfl) ?_
  refine sSeq ?_
  refine rRunN [] (fun b1 => [(2, .slice none 0 0), (1, .pointer (some ⟨b1, 0, none⟩))]) (fun b1 => []) (fun b1 => .cells #[.int .i64 r.client, .int .i64 r.seq, .string r.key, .int .i64 r.amount] 30) (fun b1 => []) (fun b1 => by kernel_rfl) (fun b1 => ?_)
  refine sSeq ?_
  refine sNilI ?_
  refine rHeld (by kernel_rfl) (by kernel_rfl) [F, [(b1, .cells #[.int .i64 r.client, .int .i64 r.seq, .string r.key, .int .i64 r.amount] 30)]] ?_
  refine hTakes [0, 1, 3, 4, 6, 7] [(1, 2, 0), (4, 2, 0), (7, 2, 0)] [0, 1] [(11, .int .i64 r.amount), (10, .pointer (some ⟨b1, 3, none⟩)), (8, .int .i64 r.seq), (7, .pointer (some ⟨b1, 1, none⟩)), (5, .int .i64 r.client), (4, .pointer (some ⟨b1, 0, none⟩))] [b1, b1, b1] (by kernel_rfl) (by kernel_rfl) (by kernel_rfl) (by kernel_rfl) ?_
  refine hOS 2 [1, 2] (OS.callP [2] (c_num44 W base ⟨none, 0, []⟩ ([] : List UInt8) r.client 4 0 rfl (SD.ok_nil 1) (by omega) (by omega)) (by kernel_rfl) (by kernel_rfl) (by kernel_rfl)) (by kernel_rfl) (by kernel_rfl) (by kernel_rfl) (fun _ => by kernel_rfl) ?_
  rintro d2 hd2
  refine hOS 5 [1, 2] (OS.callP [0] (c_num44 W base d2 (([] : List UInt8) ++ numB r.client 4) r.seq 8 (0 + 4) (by first | (simp [numB_len]; done) | (simp [numB_len]; omega)) hd2 (by omega) (by omega)) (by kernel_rfl) (by kernel_rfl) (by kernel_rfl)) (by kernel_rfl) (by kernel_rfl) (by kernel_rfl) (fun _ => by kernel_rfl) ?_
  rintro d3 hd3
  refine hOS 8 [1, 2] (OS.callP [0] (c_num44 W base d3 (([] : List UInt8) ++ numB r.client 4 ++ numB r.seq 8) r.amount 8 ((0 + 4) + 8) (by first | (simp [numB_len]; done) | (simp [numB_len]; omega)) hd3 (by omega) (by omega)) (by kernel_rfl) (by kernel_rfl) (by kernel_rfl)) (by kernel_rfl) (by kernel_rfl) (by kernel_rfl) (fun _ => by kernel_rfl) ?_
  rintro d4 hd4
  refine hTakes [9] [] [1, 2] [(3, .slice d4.a (((0 + 4) + 8) + 8) d4.cap)] [] (by kernel_rfl) (by kernel_rfl) (by kernel_rfl) (by kernel_rfl) (hEnd (by kernel_rfl) (sSeq ?_))
  refine rHeld (by kernel_rfl) (by kernel_rfl) [F, [(b1, .cells #[.int .i64 r.client, .int .i64 r.seq, .string r.key, .int .i64 r.amount] 30)]] ?_
  refine hTakes [0, 1, 2, 3, 4] [(2, 2, 0)] [1, 2] [(17, .int .u8 (IntKind.u8.wrap (r.key.size : Int))), (16, .int .i64 (r.key.size : Int)), (15, .string r.key), (14, .pointer (some ⟨b1, 2, none⟩)), (13, .slice d4.a (((0 + 4) + 8) + 8) d4.cap)] [b1] (by kernel_rfl) (by kernel_rfl) (by kernel_rfl) (by kernel_rfl) (hOv (v := Extern.Stop.cell (UInt8.ofNat r.key.size)) (v0 := .int .u8 (IntKind.u8.wrap (r.key.size : Int))) 17 (cell_len r.key) (by kernel_rfl) (hTakes [7, 8] [(8, 2, 0)] [1, 2] [(21, .string r.key), (20, .pointer (some ⟨b1, 2, none⟩))] [b1] (by kernel_rfl) (by kernel_rfl) (by kernel_rfl) (by kernel_rfl) ?_))
  refine hOS 5 [1, 2] (OS.run1 (0, 0) (fun b5 => .slice (some ⟨b5, 0, none⟩) 1 1) (fun b5 => [SD.blk 5 encByte d4 (([] : List UInt8) ++ numB r.client 4 ++ numB r.seq 8 ++ numB r.amount 8), F, [(b1, .cells #[.int .i64 r.client, .int .i64 r.seq, .string r.key, .int .i64 r.amount] 30)], [(b5, .cells #[Extern.Stop.cell (UInt8.ofNat r.key.size)] 5)]]) (fun b5 => []) (by kernel_rfl) (fun b5 => by kernel_rfl)) (by kernel_rfl) (by kernel_rfl) (by kernel_rfl) (fun _ => by kernel_rfl) ?_
  rintro b5 -
  refine hOS 6 [1, 2] (OS.x (u := fun d' : SD => .slice d'.a ((((0 + 4) + 8) + 8) + 1) d'.cap) (by kernel_rfl) (by kernel_rfl) (runAppend1 (t := 40) (ty := 40) (b2 := b5) (cs := #[Extern.Stop.cell (UInt8.ofNat r.key.size)]) (T2 := 5) (k := 1) (e := 5) (by_ := 1) (z := [.int .u8 0]) (f := encByte) (fun _ => rfl) d4 (([] : List UInt8) ++ numB r.client 4 ++ numB r.seq 8 ++ numB r.amount 8) (UInt8.ofNat r.key.size) (((0 + 4) + 8) + 8) 0 3 (by kernel_rfl) (by kernel_rfl) rfl rfl (by kernel_rfl) (by first | (simp [numB_len]; done) | (simp [numB_len]; omega)) hd4 (by kernel_rfl) (by kernel_rfl) rfl (by omega) (by omega)) (fun _ => by kernel_rfl)) (by kernel_rfl) (by kernel_rfl) (by kernel_rfl) (fun _ => by kernel_rfl) ?_
  rintro d6 okd6
  refine hOS 9 [1, 2] (OS.x (u := fun d' : SD => .slice d'.a ((((0 + 4) + 8) + 8) + 1 + r.key.size) d'.cap) (by kernel_rfl) (by kernel_rfl) (runAppendStr (f := encByte) (fun _ => rfl) (t := 40) (u := 9) (ty := 40) (e := 5) (by_ := 1) (z := [.int .u8 0]) d6 (([] : List UInt8) ++ numB r.client 4 ++ numB r.seq 8 ++ numB r.amount 8 ++ [UInt8.ofNat r.key.size]) r.key ((((0 + 4) + 8) + 8) + 1) 0 (by kernel_rfl) (by kernel_rfl) (by kernel_rfl) rfl (by kernel_rfl) (by first | (simp [numB_len]; done) | (simp [numB_len]; omega)) okd6 (by omega) (by omega) (by omega)) (fun _ => by kernel_rfl)) (by kernel_rfl) (by kernel_rfl) (by kernel_rfl) (fun _ => by kernel_rfl) ?_
  rintro d7 okd7
  refine hTakes [10] [] [1, 2] [(3, .slice d7.a ((((0 + 4) + 8) + 8) + 1 + r.key.size) d7.cap)] [] (by kernel_rfl) (by kernel_rfl) (by kernel_rfl) (by kernel_rfl) (hEnd (by kernel_rfl) (sSeq (sReg (lRunS 2 [] [(24, .slice d7.a ((((0 + 4) + 8) + 8) + 1 + r.key.size) d7.cap), (23, .slice d7.a ((((0 + 4) + 8) + 8) + 1 + r.key.size) d7.cap)] [] (by kernel_rfl) ?_))))
  refine lCallR [0] [0, 1, 2, 3] (c_sum45 W base d7 (([] : List UInt8) ++ numB r.client 4 ++ numB r.seq 8 ++ numB r.amount 8 ++ [UInt8.ofNat r.key.size] ++ r.key.data.toList) ((((0 + 4) + 8) + 8) + 1 + r.key.size) (by first | (simp [numB_len]; done) | (simp [numB_len]; omega)) okd7 (by omega)) (by kernel_rfl) (by kernel_rfl) (by kernel_rfl) (by kernel_rfl) (by kernel_rfl) (lRunS 1 [] [(26, .int .i64 (IntKind.i64.wrap ((sumB (([] : List UInt8) ++ numB r.client 4 ++ numB r.seq 8 ++ numB r.amount 8 ++ [UInt8.ofNat r.key.size] ++ r.key.data.toList) : Nat) : Int)))] [] (by kernel_rfl) (lOv (v := .int .i64 ((sumB (([] : List UInt8) ++ numB r.client 4 ++ numB r.seq 8 ++ numB r.amount 8 ++ [UInt8.ofNat r.key.size] ++ r.key.data.toList) : Nat) : Int)) (v0 := .int .i64 (IntKind.i64.wrap ((sumB (([] : List UInt8) ++ numB r.client 4 ++ numB r.seq 8 ++ numB r.amount 8 ++ [UInt8.ofNat r.key.size] ++ r.key.data.toList) : Nat) : Int))) 26 (congrArg (Value.int .i64) (by have := sumB_lt ((([] : List UInt8) ++ numB r.client 4 ++ numB r.seq 8 ++ numB r.amount 8 ++ [UInt8.ofNat r.key.size] ++ r.key.data.toList) ); exact wrap_i64 (by omega))) (by kernel_rfl) ?_))
  refine lCallP [0] (c_num44 W base d7 (([] : List UInt8) ++ numB r.client 4 ++ numB r.seq 8 ++ numB r.amount 8 ++ [UInt8.ofNat r.key.size] ++ r.key.data.toList) ((sumB (([] : List UInt8) ++ numB r.client 4 ++ numB r.seq 8 ++ numB r.amount 8 ++ [UInt8.ofNat r.key.size] ++ r.key.data.toList) : Nat) : Int) 4 ((((0 + 4) + 8) + 8) + 1 + r.key.size) (by first | (simp [numB_len]; done) | (simp [numB_len]; omega)) okd7 (by omega) (by omega)) (by kernel_rfl) (by kernel_rfl) (by kernel_rfl) ?_
  rintro d8 hd8
  refine lRunS 1 [] [(2, .slice d8.a (((((0 + 4) + 8) + 8) + 1 + r.key.size) + 4) d8.cap)] [] (by kernel_rfl) (lEnd (sRet ?_))
  refine wfRe (its' := [SD.blk 5 encByte d8 (entB r), F, [(b1, .cells #[.int .i64 r.client, .int .i64 r.seq, .string r.key, .int .i64 r.amount] 30)], [(b5, .cells #[Extern.Stop.cell (UInt8.ofNat r.key.size)] 5)]]) rfl ?_
  exact wRet d8 (0, 0) [] (.slice d8.a (((((0 + 4) + 8) + 8) + 1 + r.key.size) + 4) d8.cap) [.tmp 2] rfl (by kernel_rfl) (by rw [entB_len, show (((((0 + 4) + 8) + 8) + 1 + r.key.size) + 4) = 25 + r.key.size by omega]) (by rw [entB_len]; have h := hd8; rwa [show (((((0 + 4) + 8) + 8) + 1 + r.key.size) + 4) = 25 + r.key.size by omega] at h) (fun _ h => h.pick [0, 1] (by kernel_rfl) (by kernel_rfl))

theorem c_entry32 (W : World) (base : List Blk) (r : Req) (hk : r.key.size ≤ 64) :
    CF Tryd.prog W base 32 #[.agg #[.int .i64 r.client, .int .i64 r.seq, .string r.key, .int .i64 r.amount]] [] (fun d : SD => .slice d.a (entB r).length d.cap) (fun d => [SD.blk 5 encByte d (entB r)]) (fun d => d.ok 1 (entB r).length) := by
  intro F
  refine ctIntro Tryd.func32 rfl rfl (by kernel_rfl) ?_
  refine sSeq ?_
  refine rRunN [] (fun b1 => [(2, .slice none 0 0), (1, .pointer (some ⟨b1, 0, none⟩))]) (fun b1 => []) (fun b1 => .cells #[.int .i64 r.client, .int .i64 r.seq, .string r.key, .int .i64 r.amount] 35) (fun b1 => []) (fun b1 => by kernel_rfl) (fun b1 => ?_)
  refine sSeq ?_
  refine sNilI ?_
  refine sReg (lRunS 3 [(1, 2, 0)] [(6, .int .u64 (IntKind.u64.wrap r.client)), (5, .int .i64 r.client), (4, .pointer (some ⟨b1, 0, none⟩))] [b1] (by kernel_rfl) ?_)
  refine lCallP [2] (c_num46 W base ⟨none, 0, []⟩ ([] : List UInt8) r.client 4 0 rfl (SD.ok_nil 1) (by omega) (by omega)) (by kernel_rfl) (by kernel_rfl) (by kernel_rfl) ?_
  rintro d2 hd2
  refine lRunS 1 [] [(3, .slice d2.a (0 + 4) d2.cap)] [] (by kernel_rfl) (lEnd (sSeq (sReg (lRunS 4 [(2, 3, 0)] [(11, .int .u64 (IntKind.u64.wrap r.seq)), (10, .int .i64 r.seq), (9, .pointer (some ⟨b1, 1, none⟩)), (8, .slice d2.a (0 + 4) d2.cap)] [b1] (by kernel_rfl) ?_))))
  refine lCallP [0] (c_num46 W base d2 (([] : List UInt8) ++ numB r.client 4) r.seq 8 (0 + 4) (by first | (simp [numB_len]; done) | (simp [numB_len]; omega)) hd2 (by omega) (by omega)) (by kernel_rfl) (by kernel_rfl) (by kernel_rfl) ?_
  rintro d3 hd3
  refine lRunS 1 [] [(3, .slice d3.a ((0 + 4) + 8) d3.cap)] [] (by kernel_rfl) (lEnd (sSeq (sReg (lRunS 4 [(2, 3, 0)] [(16, .int .u64 (IntKind.u64.wrap r.amount)), (15, .int .i64 r.amount), (14, .pointer (some ⟨b1, 3, none⟩)), (13, .slice d3.a ((0 + 4) + 8) d3.cap)] [b1] (by kernel_rfl) ?_))))
  refine lCallP [0] (c_num46 W base d3 (([] : List UInt8) ++ numB r.client 4 ++ numB r.seq 8) r.amount 8 ((0 + 4) + 8) (by first | (simp [numB_len]; done) | (simp [numB_len]; omega)) hd3 (by omega) (by omega)) (by kernel_rfl) (by kernel_rfl) (by kernel_rfl) ?_
  rintro d4 hd4
  refine lRunS 1 [] [(3, .slice d4.a (((0 + 4) + 8) + 8) d4.cap)] [] (by kernel_rfl) (lEnd (sSeq (sReg (lRunS 5 [(2, 3, 0)] [(22, .int .u64 (IntKind.u64.wrap (r.key.size : Int))), (21, .int .i64 (r.key.size : Int)), (20, .string r.key), (19, .pointer (some ⟨b1, 2, none⟩)), (18, .slice d4.a (((0 + 4) + 8) + 8) d4.cap)] [b1] (by kernel_rfl) ?_))))
  refine lCallP [0] (c_num46 W base d4 (([] : List UInt8) ++ numB r.client 4 ++ numB r.seq 8 ++ numB r.amount 8) (r.key.size : Int) 1 (((0 + 4) + 8) + 8) (by first | (simp [numB_len]; done) | (simp [numB_len]; omega)) hd4 (by omega) (by omega)) (by kernel_rfl) (by kernel_rfl) (by kernel_rfl) ?_
  rintro d5 hd5
  refine lRunS 1 [] [(3, .slice d5.a ((((0 + 4) + 8) + 8) + 1) d5.cap)] [] (by kernel_rfl) (lEnd (sSeq (sReg (lRunS 3 [(2, 3, 0)] [(26, .string r.key), (25, .pointer (some ⟨b1, 2, none⟩)), (24, .slice d5.a ((((0 + 4) + 8) + 8) + 1) d5.cap)] [b1] (by kernel_rfl) ?_))))
  refine lX (u := fun d' : SD => .slice d'.a (((((0 + 4) + 8) + 8) + 1) + r.key.size) d'.cap) (runAppendStr (f := encByte) (fun _ => rfl) (t := 40) (u := 9) (ty := 40) (e := 5) (by_ := 1) (z := [.int .u8 0]) d5 (([] : List UInt8) ++ numB r.client 4 ++ numB r.seq 8 ++ numB r.amount 8 ++ numB (r.key.size : Int) 1) r.key ((((0 + 4) + 8) + 8) + 1) 0 (by kernel_rfl) (by kernel_rfl) (by kernel_rfl) rfl (by kernel_rfl) (by first | (simp [numB_len]; done) | (simp [numB_len]; omega)) hd5 (by omega) (by omega) (by omega)) (by kernel_rfl) (by kernel_rfl) (fun _ => by kernel_rfl) ?_
  rintro d6 okd6
  refine lRunS 1 [] [(3, .slice d6.a (((((0 + 4) + 8) + 8) + 1) + r.key.size) d6.cap)] [] (by kernel_rfl) (lEnd (sSeq (sReg (lRunS 2 [] [(29, .slice d6.a (((((0 + 4) + 8) + 8) + 1) + r.key.size) d6.cap), (28, .slice d6.a (((((0 + 4) + 8) + 8) + 1) + r.key.size) d6.cap)] [] (by kernel_rfl) ?_))))
  refine lCallR [0] [0, 1, 2] (c_sum35 W base d6 (([] : List UInt8) ++ numB r.client 4 ++ numB r.seq 8 ++ numB r.amount 8 ++ numB (r.key.size : Int) 1 ++ r.key.data.toList) (((((0 + 4) + 8) + 8) + 1) + r.key.size) (by first | (simp [numB_len]; done) | (simp [numB_len]; omega)) okd6 (by omega)) (by kernel_rfl) (by kernel_rfl) (by kernel_rfl) (by kernel_rfl) (by kernel_rfl) (lOv (v := .int .u64 (IntKind.u64.wrap ((sumB (([] : List UInt8) ++ numB r.client 4 ++ numB r.seq 8 ++ numB r.amount 8 ++ numB (r.key.size : Int) 1 ++ r.key.data.toList) : Nat) : Int))) (v0 := .int .u64 ((sumB (([] : List UInt8) ++ numB r.client 4 ++ numB r.seq 8 ++ numB r.amount 8 ++ numB (r.key.size : Int) 1 ++ r.key.data.toList) : Nat) : Int)) 30 (congrArg (Value.int .u64) (by have := sumB_lt ((([] : List UInt8) ++ numB r.client 4 ++ numB r.seq 8 ++ numB r.amount 8 ++ numB (r.key.size : Int) 1 ++ r.key.data.toList) ); rw [wrap_u64]; omega)) (by kernel_rfl) ?_)
  refine lCallP [0] (c_num46 W base d6 (([] : List UInt8) ++ numB r.client 4 ++ numB r.seq 8 ++ numB r.amount 8 ++ numB (r.key.size : Int) 1 ++ r.key.data.toList) ((sumB (([] : List UInt8) ++ numB r.client 4 ++ numB r.seq 8 ++ numB r.amount 8 ++ numB (r.key.size : Int) 1 ++ r.key.data.toList) : Nat) : Int) 4 (((((0 + 4) + 8) + 8) + 1) + r.key.size) (by first | (simp [numB_len]; done) | (simp [numB_len]; omega)) okd6 (by omega) (by omega)) (by kernel_rfl) (by kernel_rfl) (by kernel_rfl) ?_
  rintro d7 hd7
  refine lRunS 1 [] [(2, .slice d7.a ((((((0 + 4) + 8) + 8) + 1) + r.key.size) + 4) d7.cap)] [] (by kernel_rfl) (lEnd (sRet ?_))
  refine wfRe (its' := [SD.blk 5 encByte d7 (entB r), F, [(b1, .cells #[.int .i64 r.client, .int .i64 r.seq, .string r.key, .int .i64 r.amount] 35)]]) (by rw [numB_key hk]; rfl) ?_
  exact wRet d7 (0, 0) [] (.slice d7.a ((((((0 + 4) + 8) + 8) + 1) + r.key.size) + 4) d7.cap) [.tmp 2] rfl (by kernel_rfl) (by rw [entB_len, show ((((((0 + 4) + 8) + 8) + 1) + r.key.size) + 4) = 25 + r.key.size by omega]) (by rw [entB_len]; have h := hd7; rwa [show ((((((0 + 4) + 8) + 8) + 1) + r.key.size) + 4) = 25 + r.key.size by omega] at h) (fun _ h => h.pick [0, 1] (by kernel_rfl) (by kernel_rfl))

end Go.Proofs.YtljfjiaiachbfaaDoor
