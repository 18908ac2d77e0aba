/- The walk of awake: it returns true. -/
import Derived.Test.YtcobccdeocihbaaProg
import Derived.Test.YtcobccdeocihbaaK1
namespace Go.Proofs.Ytcobccdeocihbaa
open Go.Sx
set_option maxRecDepth 100000
set_option linter.unusedSimpArgs false
set_option linter.unusedVariables false
theorem c_awake (W : World) : CP Try.prog W [] 7 #[] [] (.bool true) := by
  intro F
  refine ctIntro Try.func7 rfl rfl (by kernel_rfl) ?_
  refine sSeq (rRunS [] [(0, .bool false)] [] (by kernel_rfl) (sSeq (sReg ?_)))
  refine lCallP [] (k21_0 W []) (by kernel_rfl) (by kernel_rfl) (by kernel_rfl) ?_
  rintro b1 -
  refine lRunS 5 [] [(2, .int .i64 0), (1, .pointer (some ⟨b1, 0, none⟩)), (17, .int .i64 0), (16, .pointer (some ⟨b1, 0, none⟩)), (14, .tuple #[.pointer (some ⟨b1, 0, none⟩), .int .i64 0])] [] (by kernel_rfl) (lEnd (sSeq (sReg ?_)))
  refine lCallP [] (k21_1 W []) (by kernel_rfl) (by kernel_rfl) (by kernel_rfl) ?_
  rintro b2 -
  refine lRunS 5 [] [(4, .int .i64 0), (3, .pointer (some ⟨b2, 0, none⟩)), (21, .int .i64 0), (20, .pointer (some ⟨b2, 0, none⟩)), (18, .tuple #[.pointer (some ⟨b2, 0, none⟩), .int .i64 0])] [] (by kernel_rfl) (lEnd (sSeq (sSeq (sReg (lRunS 16 [] [(37, .pointer (some ⟨b1, 0, none⟩)), (36, .bool false), (35, .bool false), (34, .bool false), (33, .pointer (some ⟨b2, 0, none⟩)), (32, .bool false), (31, .bool false), (30, .bool false), (29, .pointer (some ⟨b1, 0, none⟩)), (28, .bool false), (27, .bool false), (26, .bool false), (25, .int .i64 0), (24, .bool false), (23, .bool false), (22, .int .i64 0)] [] (by kernel_rfl) ?_)))))
  refine lCallP [1] (k27_2 W [] b1) (by kernel_rfl) (by kernel_rfl) (by kernel_rfl) ?_
  rintro ⟨⟩ -
  refine lRunS 4 [] [(42, .pointer (some ⟨b2, 0, none⟩)), (41, .bool false), (40, .bool false), (39, .bool false)] [] (by kernel_rfl) ?_
  refine lCallP [1] (k28_4 W [] b2) (by kernel_rfl) (by kernel_rfl) (by kernel_rfl) ?_
  rintro ⟨⟩ -
  refine lRunS 2 [] [(45, .bool false), (44, .bool false)] [] (by kernel_rfl) (lEnd (sIfF (by kernel_rfl) (sSkip (sSeq (sSeq ?_)))))
  refine rRunS [] [(46, .int .i64 0)] [] (by kernel_rfl) (sBlock ?_)
  refine sRounds 60 ?_
  refine sSeq (rRunS [] [(47, .bool true)] [] (by kernel_rfl) (sSeq (sIfT (by kernel_rfl) (sSkip (sSeq ?_)))))
  refine sBlock (sSeq ?_)
  refine rRunN [] (fun b3 => [(56, .int .i64 0), (55, .int .i64 2), (54, .slice (some ⟨b3, 0, none⟩) 2 2), (53, .agg #[.pointer (some ⟨b2, 0, none⟩), .pointer (some ⟨b1, 0, none⟩)]), (52, .pointer (some ⟨b1, 0, none⟩)), (51, .pointer (some ⟨b2, 0, none⟩)), (50, .agg #[.pointer (some ⟨b1, 0, none⟩), .pointer (some ⟨b2, 0, none⟩)]), (49, .pointer (some ⟨b2, 0, none⟩)), (48, .pointer (some ⟨b1, 0, none⟩))]) (fun b3 => []) (fun b3 => .cells #[.pointer (some ⟨b1, 0, none⟩), .pointer (some ⟨b2, 0, none⟩), .pointer (some ⟨b2, 0, none⟩), .pointer (some ⟨b1, 0, none⟩)] 57) (fun b3 => []) (fun b3 => by kernel_rfl) (fun b3 => ?_)
  refine sBlock ?_
  refine sRounds 60 ?_
  refine sSeq (rRunS [] [(57, .bool true)] [] (by kernel_rfl) (sSeq (sIfT (by kernel_rfl) (sSkip (sSeq ?_)))))
  refine sBlock (sSeq ?_)
  refine rRunN [(1, 4, 0), (3, 5, 0)] (fun b4 => [(6, .pointer (some ⟨b4, 0, none⟩)), (59, .agg #[.pointer (some ⟨b1, 0, none⟩), .pointer (some ⟨b2, 0, none⟩)]), (58, .pointer (some ⟨b3, 0, none⟩))]) (fun b4 => []) (fun b4 => .cells #[.pointer (some ⟨b1, 0, none⟩), .pointer (some ⟨b2, 0, none⟩)] 57) (fun b4 => [b4, b4, b3, b3]) (fun b4 => by kernel_rfl) (fun b4 => ?_)
  refine sSeq (sReg (lRunS 2 [(1, 5, 0)] [(62, .pointer (some ⟨b1, 0, none⟩)), (61, .pointer (some ⟨b4, 0, none⟩))] [b4] (by kernel_rfl) ?_))
  refine lCallP [1] (k29_6 W [] b1) (by kernel_rfl) (by kernel_rfl) (by kernel_rfl) ?_
  rintro b5 -
  refine lRunS 5 [] [(8, .int .i64 0), (7, .slice (some ⟨b5, 0, none⟩) 1 1), (65, .int .i64 0), (64, .slice (some ⟨b5, 0, none⟩) 1 1), (60, .tuple #[.slice (some ⟨b5, 0, none⟩) 1 1, .int .i64 0])] [] (by kernel_rfl) (lEnd (sSeq (sSeq (rRunS [] [(67, .bool false), (66, .int .i64 0)] [] (by kernel_rfl) (sIfF (by kernel_rfl) ?_)))))
  refine sSkip (sSeq (rRunS [] [(70, .int .i64 0), (69, .int .i64 1), (68, .slice (some ⟨b5, 0, none⟩) 1 1)] [] (by kernel_rfl) (sBlock ?_)))
  refine sRounds 60 ?_
  refine sSeq (rRunS [] [(71, .bool true)] [] (by kernel_rfl) (sSeq (sIfT (by kernel_rfl) (sSkip (sSeq ?_)))))
  refine sBlock (sSeq ?_)
  refine rRunN [(1, 2, 0), (3, 7, 0)] (fun b6 => [(10, .pointer (some ⟨b6, 0, none⟩)), (73, .agg #[.int .i64 1, .int .u32 100, .int .u32 0, .int .i64 4096, .slice none 0 0]), (72, .pointer (some ⟨b5, 0, none⟩))]) (fun b6 => []) (fun b6 => .cells #[.int .i64 1, .int .u32 100, .int .u32 0, .int .i64 4096, .slice none 0 0] 74) (fun b6 => [b6, b6, b6, b6, b6, b5, b5, b5, b5, b5]) (fun b6 => by kernel_rfl) (fun b6 => ?_)
  refine sSeq (sReg (lRunS 3 [(1, 6, 0), (2, 7, 0)] [(76, .agg #[.int .i64 1, .int .u32 100, .int .u32 0, .int .i64 4096, .slice none 0 0]), (75, .pointer (some ⟨b2, 0, none⟩)), (74, .pointer (some ⟨b4, 1, none⟩))] [b6, b6, b6, b6, b6, b4] (by kernel_rfl) ?_))
  refine lCallP [2] (k30_14 W [] b2) (by kernel_rfl) (by kernel_rfl) (by kernel_rfl) ?_
  rintro ⟨⟩ -
  refine lRunS 1 [] [(78, .bool false)] [] (by kernel_rfl) (lEnd (sIfF (by kernel_rfl) (sSkip (sEnd (rRunS [] [(70, .int .i64 1), (79, .int .i64 1)] [] (by kernel_rfl) ?_)))))
  refine sRound 59 ?_
  refine sSeq (rRunS [] [(71, .bool false)] [] (by kernel_rfl) (sSeq (sIfF (by kernel_rfl) (sExit (by kernel_rfl) (sEnd ?_)))))
  refine rRunS [] [(56, .int .i64 1), (80, .int .i64 1)] [] (by kernel_rfl) ?_
  refine sRound 59 ?_
  refine sSeq (rRunS [] [(57, .bool true)] [] (by kernel_rfl) (sSeq (sIfT (by kernel_rfl) (sSkip (sSeq ?_)))))
  refine sBlock (sSeq ?_)
  refine rRunN [(1, 5, 0), (3, 8, 0)] (fun b7 => [(6, .pointer (some ⟨b7, 0, none⟩)), (59, .agg #[.pointer (some ⟨b2, 0, none⟩), .pointer (some ⟨b1, 0, none⟩)]), (58, .pointer (some ⟨b3, 2, none⟩))]) (fun b7 => []) (fun b7 => .cells #[.pointer (some ⟨b2, 0, none⟩), .pointer (some ⟨b1, 0, none⟩)] 57) (fun b7 => [b7, b7, b3, b3]) (fun b7 => by kernel_rfl) (fun b7 => ?_)
  refine sSeq (sReg (lRunS 2 [(1, 8, 0)] [(62, .pointer (some ⟨b2, 0, none⟩)), (61, .pointer (some ⟨b7, 0, none⟩))] [b7] (by kernel_rfl) ?_))
  refine lCallP [0] (k29_17 W [] b2) (by kernel_rfl) (by kernel_rfl) (by kernel_rfl) ?_
  rintro b8 -
  refine lRunS 5 [] [(8, .int .i64 0), (7, .slice (some ⟨b8, 0, none⟩) 1 1), (65, .int .i64 0), (64, .slice (some ⟨b8, 0, none⟩) 1 1), (60, .tuple #[.slice (some ⟨b8, 0, none⟩) 1 1, .int .i64 0])] [] (by kernel_rfl) (lEnd (sSeq (sSeq (rRunS [] [(67, .bool false), (66, .int .i64 0)] [] (by kernel_rfl) (sIfF (by kernel_rfl) ?_)))))
  refine sSkip (sSeq (rRunS [] [(70, .int .i64 0), (69, .int .i64 1), (68, .slice (some ⟨b8, 0, none⟩) 1 1)] [] (by kernel_rfl) (sBlock ?_)))
  refine sRounds 60 ?_
  refine sSeq (rRunS [] [(71, .bool true)] [] (by kernel_rfl) (sSeq (sIfT (by kernel_rfl) (sSkip (sSeq ?_)))))
  refine sBlock (sSeq ?_)
  refine rRunN [(1, 2, 0), (3, 10, 0)] (fun b9 => [(10, .pointer (some ⟨b9, 0, none⟩)), (73, .agg #[.int .i64 3, .int .u32 300, .int .u32 101, .int .i64 4096, .slice none 0 0]), (72, .pointer (some ⟨b8, 0, none⟩))]) (fun b9 => []) (fun b9 => .cells #[.int .i64 3, .int .u32 300, .int .u32 101, .int .i64 4096, .slice none 0 0] 74) (fun b9 => [b9, b9, b9, b9, b9, b8, b8, b8, b8, b8]) (fun b9 => by kernel_rfl) (fun b9 => ?_)
  refine sSeq (sReg (lRunS 3 [(1, 9, 0), (2, 10, 0)] [(76, .agg #[.int .i64 3, .int .u32 300, .int .u32 101, .int .i64 4096, .slice none 0 0]), (75, .pointer (some ⟨b1, 0, none⟩)), (74, .pointer (some ⟨b7, 1, none⟩))] [b9, b9, b9, b9, b9, b7] (by kernel_rfl) ?_))
  refine lCallP [2] (k30_26 W [] b1) (by kernel_rfl) (by kernel_rfl) (by kernel_rfl) ?_
  rintro ⟨⟩ -
  refine lRunS 1 [] [(78, .bool false)] [] (by kernel_rfl) (lEnd (sIfF (by kernel_rfl) (sSkip (sEnd (rRunS [] [(70, .int .i64 1), (79, .int .i64 1)] [] (by kernel_rfl) ?_)))))
  refine sRound 59 ?_
  refine sSeq (rRunS [] [(71, .bool false)] [] (by kernel_rfl) (sSeq (sIfF (by kernel_rfl) (sExit (by kernel_rfl) (sEnd ?_)))))
  refine rRunS [] [(56, .int .i64 2), (80, .int .i64 2)] [] (by kernel_rfl) ?_
  refine sRound 58 ?_
  refine sSeq (rRunS [] [(57, .bool false)] [] (by kernel_rfl) (sSeq (sIfF (by kernel_rfl) (sExit (by kernel_rfl) (sEnd ?_)))))
  refine rRunS [] [(46, .int .i64 1), (81, .int .i64 1)] [] (by kernel_rfl) ?_
  refine sRound 59 ?_
  refine sSeq (rRunS [] [(47, .bool true)] [] (by kernel_rfl) (sSeq (sIfT (by kernel_rfl) (sSkip (sSeq ?_)))))
  refine sBlock (sSeq ?_)
  refine rRunN [] (fun b10 => [(56, .int .i64 0), (55, .int .i64 2), (54, .slice (some ⟨b10, 0, none⟩) 2 2), (53, .agg #[.pointer (some ⟨b2, 0, none⟩), .pointer (some ⟨b1, 0, none⟩)]), (52, .pointer (some ⟨b1, 0, none⟩)), (51, .pointer (some ⟨b2, 0, none⟩)), (50, .agg #[.pointer (some ⟨b1, 0, none⟩), .pointer (some ⟨b2, 0, none⟩)]), (49, .pointer (some ⟨b2, 0, none⟩)), (48, .pointer (some ⟨b1, 0, none⟩))]) (fun b10 => []) (fun b10 => .cells #[.pointer (some ⟨b1, 0, none⟩), .pointer (some ⟨b2, 0, none⟩), .pointer (some ⟨b2, 0, none⟩), .pointer (some ⟨b1, 0, none⟩)] 57) (fun b10 => []) (fun b10 => by kernel_rfl) (fun b10 => ?_)
  refine sBlock ?_
  refine sRounds 60 ?_
  refine sSeq (rRunS [] [(57, .bool true)] [] (by kernel_rfl) (sSeq (sIfT (by kernel_rfl) (sSkip (sSeq ?_)))))
  refine sBlock (sSeq ?_)
  refine rRunN [(1, 11, 0), (3, 12, 0)] (fun b11 => [(6, .pointer (some ⟨b11, 0, none⟩)), (59, .agg #[.pointer (some ⟨b1, 0, none⟩), .pointer (some ⟨b2, 0, none⟩)]), (58, .pointer (some ⟨b10, 0, none⟩))]) (fun b11 => []) (fun b11 => .cells #[.pointer (some ⟨b1, 0, none⟩), .pointer (some ⟨b2, 0, none⟩)] 57) (fun b11 => [b11, b11, b10, b10]) (fun b11 => by kernel_rfl) (fun b11 => ?_)
  refine sSeq (sReg (lRunS 2 [(1, 12, 0)] [(62, .pointer (some ⟨b1, 0, none⟩)), (61, .pointer (some ⟨b11, 0, none⟩))] [b11] (by kernel_rfl) ?_))
  refine lCallP [0] (k29_33 W [] b1) (by kernel_rfl) (by kernel_rfl) (by kernel_rfl) ?_
  rintro ⟨b12, c13, r14⟩ ⟨hcc13, hrc13⟩
  refine lRunS 5 [] [(8, .int .i64 0), (7, .slice (some ⟨b12, 0, none⟩) 1 c13), (65, .int .i64 0), (64, .slice (some ⟨b12, 0, none⟩) 1 c13), (60, .tuple #[.slice (some ⟨b12, 0, none⟩) 1 c13, .int .i64 0])] [] (by kernel_rfl) (lEnd (sSeq (sSeq (rRunS [] [(67, .bool false), (66, .int .i64 0)] [] (by kernel_rfl) (sIfF (by kernel_rfl) ?_)))))
  refine sSkip (sSeq (rRunS [] [(70, .int .i64 0), (69, .int .i64 1), (68, .slice (some ⟨b12, 0, none⟩) 1 c13)] [] (by kernel_rfl) (sBlock ?_)))
  refine sRounds 60 ?_
  refine sSeq (rRunS [] [(71, .bool true)] [] (by kernel_rfl) (sSeq (sIfT (by kernel_rfl) (sSkip (sSeq ?_)))))
  refine sBlock (sSeq ?_)
  refine rRunN [(1, 2, 0), (3, 14, 0)] (fun b15 => [(10, .pointer (some ⟨b15, 0, none⟩)), (73, .agg #[.int .i64 2, .int .u32 101, .int .u32 301, .int .i64 4096, .slice none 0 0]), (72, .pointer (some ⟨b12, 0, none⟩))]) (fun b15 => []) (fun b15 => .cells #[.int .i64 2, .int .u32 101, .int .u32 301, .int .i64 4096, .slice none 0 0] 74) (fun b15 => [b15, b15, b15, b15, b15, b12, b12, b12, b12, b12]) (fun b15 => by kernel_rfl) (fun b15 => ?_)
  refine sSeq (sReg (lRunS 3 [(1, 13, 0), (2, 14, 0)] [(76, .agg #[.int .i64 2, .int .u32 101, .int .u32 301, .int .i64 4096, .slice none 0 0]), (75, .pointer (some ⟨b2, 0, none⟩)), (74, .pointer (some ⟨b11, 1, none⟩))] [b15, b15, b15, b15, b15, b11] (by kernel_rfl) ?_))
  refine lCallP [2] (k30_43 W [] b2) (by kernel_rfl) (by kernel_rfl) (by kernel_rfl) ?_
  rintro ⟨⟩ -
  refine lRunS 1 [] [(78, .bool false)] [] (by kernel_rfl) (lEnd (sIfF (by kernel_rfl) (sSkip (sEnd (rRunS [] [(70, .int .i64 1), (79, .int .i64 1)] [] (by kernel_rfl) ?_)))))
  refine sRound 59 ?_
  refine sSeq (rRunS [] [(71, .bool false)] [] (by kernel_rfl) (sSeq (sIfF (by kernel_rfl) (sExit (by kernel_rfl) (sEnd ?_)))))
  refine rRunS [] [(56, .int .i64 1), (80, .int .i64 1)] [] (by kernel_rfl) ?_
  refine sRound 59 ?_
  refine sSeq (rRunS [] [(57, .bool true)] [] (by kernel_rfl) (sSeq (sIfT (by kernel_rfl) (sSkip (sSeq ?_)))))
  refine sBlock (sSeq ?_)
  refine rRunN [(1, 12, 0), (3, 15, 0)] (fun b16 => [(6, .pointer (some ⟨b16, 0, none⟩)), (59, .agg #[.pointer (some ⟨b2, 0, none⟩), .pointer (some ⟨b1, 0, none⟩)]), (58, .pointer (some ⟨b10, 2, none⟩))]) (fun b16 => []) (fun b16 => .cells #[.pointer (some ⟨b2, 0, none⟩), .pointer (some ⟨b1, 0, none⟩)] 57) (fun b16 => [b16, b16, b10, b10]) (fun b16 => by kernel_rfl) (fun b16 => ?_)
  refine sSeq (sReg (lRunS 2 [(1, 15, 0)] [(62, .pointer (some ⟨b2, 0, none⟩)), (61, .pointer (some ⟨b16, 0, none⟩))] [b16] (by kernel_rfl) ?_))
  refine lCallP [0] (k29_51 W [] b2) (by kernel_rfl) (by kernel_rfl) (by kernel_rfl) ?_
  rintro ⟨⟩ -
  refine lRunS 5 [] [(8, .int .i64 0), (7, .slice none 0 0), (65, .int .i64 0), (64, .slice none 0 0), (60, .tuple #[.slice none 0 0, .int .i64 0])] [] (by kernel_rfl) (lEnd (sSeq (sSeq (rRunS [] [(67, .bool false), (66, .int .i64 0)] [] (by kernel_rfl) (sIfF (by kernel_rfl) ?_)))))
  refine sSkip (sSeq (rRunS [] [(70, .int .i64 0), (69, .int .i64 0), (68, .slice none 0 0)] [] (by kernel_rfl) (sBlock ?_)))
  refine sRounds 60 ?_
  refine sSeq (rRunS [] [(71, .bool false)] [] (by kernel_rfl) (sSeq (sIfF (by kernel_rfl) (sExit (by kernel_rfl) (sEnd ?_)))))
  refine rRunS [] [(56, .int .i64 2), (80, .int .i64 2)] [] (by kernel_rfl) ?_
  refine sRound 58 ?_
  refine sSeq (rRunS [] [(57, .bool false)] [] (by kernel_rfl) (sSeq (sIfF (by kernel_rfl) (sExit (by kernel_rfl) (sEnd ?_)))))
  refine rRunS [] [(46, .int .i64 2), (81, .int .i64 2)] [] (by kernel_rfl) ?_
  refine sRound 58 ?_
  refine sSeq (rRunS [] [(47, .bool true)] [] (by kernel_rfl) (sSeq (sIfT (by kernel_rfl) (sSkip (sSeq ?_)))))
  refine sBlock (sSeq ?_)
  refine rRunN [] (fun b17 => [(56, .int .i64 0), (55, .int .i64 2), (54, .slice (some ⟨b17, 0, none⟩) 2 2), (53, .agg #[.pointer (some ⟨b2, 0, none⟩), .pointer (some ⟨b1, 0, none⟩)]), (52, .pointer (some ⟨b1, 0, none⟩)), (51, .pointer (some ⟨b2, 0, none⟩)), (50, .agg #[.pointer (some ⟨b1, 0, none⟩), .pointer (some ⟨b2, 0, none⟩)]), (49, .pointer (some ⟨b2, 0, none⟩)), (48, .pointer (some ⟨b1, 0, none⟩))]) (fun b17 => []) (fun b17 => .cells #[.pointer (some ⟨b1, 0, none⟩), .pointer (some ⟨b2, 0, none⟩), .pointer (some ⟨b2, 0, none⟩), .pointer (some ⟨b1, 0, none⟩)] 57) (fun b17 => []) (fun b17 => by kernel_rfl) (fun b17 => ?_)
  refine sBlock ?_
  refine sRounds 60 ?_
  refine sSeq (rRunS [] [(57, .bool true)] [] (by kernel_rfl) (sSeq (sIfT (by kernel_rfl) (sSkip (sSeq ?_)))))
  refine sBlock (sSeq ?_)
  refine rRunN [(1, 16, 0), (3, 17, 0)] (fun b18 => [(6, .pointer (some ⟨b18, 0, none⟩)), (59, .agg #[.pointer (some ⟨b1, 0, none⟩), .pointer (some ⟨b2, 0, none⟩)]), (58, .pointer (some ⟨b17, 0, none⟩))]) (fun b18 => []) (fun b18 => .cells #[.pointer (some ⟨b1, 0, none⟩), .pointer (some ⟨b2, 0, none⟩)] 57) (fun b18 => [b18, b18, b17, b17]) (fun b18 => by kernel_rfl) (fun b18 => ?_)
  refine sSeq (sReg (lRunS 2 [(1, 17, 0)] [(62, .pointer (some ⟨b1, 0, none⟩)), (61, .pointer (some ⟨b18, 0, none⟩))] [b18] (by kernel_rfl) ?_))
  refine lCallP [1] (k29_55 W [] b1) (by kernel_rfl) (by kernel_rfl) (by kernel_rfl) ?_
  rintro ⟨⟩ -
  refine lRunS 5 [] [(8, .int .i64 0), (7, .slice none 0 0), (65, .int .i64 0), (64, .slice none 0 0), (60, .tuple #[.slice none 0 0, .int .i64 0])] [] (by kernel_rfl) (lEnd (sSeq (sSeq (rRunS [] [(67, .bool false), (66, .int .i64 0)] [] (by kernel_rfl) (sIfF (by kernel_rfl) ?_)))))
  refine sSkip (sSeq (rRunS [] [(70, .int .i64 0), (69, .int .i64 0), (68, .slice none 0 0)] [] (by kernel_rfl) (sBlock ?_)))
  refine sRounds 60 ?_
  refine sSeq (rRunS [] [(71, .bool false)] [] (by kernel_rfl) (sSeq (sIfF (by kernel_rfl) (sExit (by kernel_rfl) (sEnd ?_)))))
  refine rRunS [] [(56, .int .i64 1), (80, .int .i64 1)] [] (by kernel_rfl) ?_
  refine sRound 59 ?_
  refine sSeq (rRunS [] [(57, .bool true)] [] (by kernel_rfl) (sSeq (sIfT (by kernel_rfl) (sSkip (sSeq ?_)))))
  refine sBlock (sSeq ?_)
  refine rRunN [(1, 16, 0), (3, 18, 0)] (fun b19 => [(6, .pointer (some ⟨b19, 0, none⟩)), (59, .agg #[.pointer (some ⟨b2, 0, none⟩), .pointer (some ⟨b1, 0, none⟩)]), (58, .pointer (some ⟨b17, 2, none⟩))]) (fun b19 => []) (fun b19 => .cells #[.pointer (some ⟨b2, 0, none⟩), .pointer (some ⟨b1, 0, none⟩)] 57) (fun b19 => [b19, b19, b17, b17]) (fun b19 => by kernel_rfl) (fun b19 => ?_)
  refine sSeq (sReg (lRunS 2 [(1, 18, 0)] [(62, .pointer (some ⟨b2, 0, none⟩)), (61, .pointer (some ⟨b19, 0, none⟩))] [b19] (by kernel_rfl) ?_))
  refine lCallP [1] (k29_51 W [] b2) (by kernel_rfl) (by kernel_rfl) (by kernel_rfl) ?_
  rintro ⟨⟩ -
  refine lRunS 5 [] [(8, .int .i64 0), (7, .slice none 0 0), (65, .int .i64 0), (64, .slice none 0 0), (60, .tuple #[.slice none 0 0, .int .i64 0])] [] (by kernel_rfl) (lEnd (sSeq (sSeq (rRunS [] [(67, .bool false), (66, .int .i64 0)] [] (by kernel_rfl) (sIfF (by kernel_rfl) ?_)))))
  refine sSkip (sSeq (rRunS [] [(70, .int .i64 0), (69, .int .i64 0), (68, .slice none 0 0)] [] (by kernel_rfl) (sBlock ?_)))
  refine sRounds 60 ?_
  refine sSeq (rRunS [] [(71, .bool false)] [] (by kernel_rfl) (sSeq (sIfF (by kernel_rfl) (sExit (by kernel_rfl) (sEnd ?_)))))
  refine rRunS [] [(56, .int .i64 2), (80, .int .i64 2)] [] (by kernel_rfl) ?_
  refine sRound 58 ?_
  refine sSeq (rRunS [] [(57, .bool false)] [] (by kernel_rfl) (sSeq (sIfF (by kernel_rfl) (sExit (by kernel_rfl) (sEnd ?_)))))
  refine rRunS [] [(46, .int .i64 3), (81, .int .i64 3)] [] (by kernel_rfl) ?_
  refine sRound 57 ?_
  refine sSeq (rRunS [] [(47, .bool false)] [] (by kernel_rfl) (sSeq (sIfF (by kernel_rfl) (sExit (by kernel_rfl) (sSeq ?_)))))
  refine sReg ?_
  refine lRunN 2 [] (fun b20 => [(84, .slice (some ⟨b20, 0, none⟩) 3 3), (83, .pointer (some ⟨b1, 0, none⟩))]) (fun b20 => []) (fun b20 => .cells #[.int .u8 97, .int .u8 98, .int .u8 99] 5) (fun b20 => []) (fun b20 => by kernel_rfl) (fun b20 => ?_)
  refine lX (u := fun _ : Unit => .slice (some ⟨b20, 0, none⟩) 3 3) (runConvMark (T := 26) (e := 5) (b := b20) (n := 3) (c := 3) (cs := #[.int .u8 97, .int .u8 98, .int .u8 99]) (T' := 5) 18 (by kernel_rfl) (by kernel_rfl) (by kernel_rfl)) (by kernel_rfl) (by kernel_rfl) (fun _ => by kernel_rfl) ?_
  rintro ⟨⟩ -
  refine lCallP [1, 18] (k17_59 W [] b1 b20) (by kernel_rfl) (by kernel_rfl) (by kernel_rfl) ?_
  rintro ⟨b21, c22, r23⟩ ⟨hcc22, hrc22⟩
  refine lRunS 5 [] [(2, .int .i64 0), (11, .int .i64 3), (88, .int .i64 0), (87, .int .i64 3), (82, .tuple #[.int .i64 3, .int .i64 0])] [] (by kernel_rfl) (lEnd (sSeq (sReg (lRunS 1 [] [(90, .pointer (some ⟨b1, 0, none⟩))] [] (by kernel_rfl) ?_))))
  refine lCallP [0, 2] (k29_61 W [] c22 r23 b1 b21 hcc22 hrc22) (by kernel_rfl) (by kernel_rfl) (by kernel_rfl) ?_
  rintro ⟨b24, c25, b26, c27, r28, r29⟩ ⟨hcc25, hrc25, hcc27, hrc27⟩
  refine lRunS 5 [] [(4, .int .i64 0), (12, .slice (some ⟨b24, 0, none⟩) 1 c25), (93, .int .i64 0), (92, .slice (some ⟨b24, 0, none⟩) 1 c25), (89, .tuple #[.slice (some ⟨b24, 0, none⟩) 1 c25, .int .i64 0])] [] (by kernel_rfl) (lEnd (sSeq (sSeq (sReg (lRunS 27 [(19, 3, 0), (26, 3, 0)] [(120, .agg #[.int .i64 2, .int .u32 101, .int .u32 301, .int .i64 4096, .slice (some ⟨b26, 0, none⟩) 3 c27]), (119, .pointer (some ⟨b24, 0, none⟩)), (118, .slice (some ⟨b24, 0, none⟩) 1 c25), (117, .pointer (some ⟨b2, 0, none⟩)), (116, .bool false), (115, .bool false), (114, .bool false), (113, .int .u32 101), (112, .pointer (some ⟨b24, 1, none⟩)), (111, .pointer (some ⟨b24, 0, none⟩)), (110, .slice (some ⟨b24, 0, none⟩) 1 c25), (109, .bool false), (108, .bool false), (107, .bool false), (106, .int .i64 1), (105, .slice (some ⟨b24, 0, none⟩) 1 c25), (104, .bool false), (103, .bool false), (102, .bool false), (101, .int .i64 3), (100, .bool false), (99, .bool false), (98, .bool false), (97, .int .i64 0), (96, .bool false), (95, .bool false), (94, .int .i64 0)] [b24, b24, b24, b24, b24, b24] (by kernel_rfl) ?_)))))
  refine lCallP [5, 3] (k30_71 W [] c27 r29 b2 b26 hcc27 hrc27) (by kernel_rfl) (by kernel_rfl) (by kernel_rfl) ?_
  rintro ⟨b30, c31, r32⟩ ⟨hcc31, hrc31⟩
  refine lRunS 2 [] [(123, .bool false), (122, .bool false)] [] (by kernel_rfl) (lEnd (sIfF (by kernel_rfl) (sSkip (sSeq (sReg ?_)))))
  refine lRunS 1 [] [(125, .pointer (some ⟨b2, 0, none⟩))] [] (by kernel_rfl) ?_
  refine lCallP [0, 2] (k31_79 W [] c31 r32 b2 b30 hcc31 hrc31) (by kernel_rfl) (by kernel_rfl) (by kernel_rfl) ?_
  rintro ⟨b33, c34, r35⟩ ⟨hcc34, hrc34⟩
  refine lRunS 5 [] [(2, .int .i64 0), (13, .slice (some ⟨b33, 0, none⟩) 3 c34), (128, .int .i64 0), (127, .slice (some ⟨b33, 0, none⟩) 3 c34), (124, .tuple #[.slice (some ⟨b33, 0, none⟩) 3 c34, .int .i64 0])] [] (by kernel_rfl) (lEnd (sSeq (sReg (lRunS 4 [] [(132, .slice (some ⟨b33, 0, none⟩) 3 c34), (131, .bool true), (130, .bool true), (129, .int .i64 0)] [] (by kernel_rfl) (lR (u := .string (⟨#[97, 98, 99]⟩ : ByteArray)) (runBytesStr (f := encByte) (fun _ => rfl) (src := 26) (dst := 9) (e := 5) (n := 3) (i := 2) (T' := 5) ⟨some ⟨b33, 0, none⟩, c34, r35⟩ [97, 98, 99] (by kernel_rfl) (by kernel_rfl) (by kernel_rfl) (by kernel_rfl) rfl (.inr ⟨b33, c34, r35, rfl, hcc34, hrc34⟩)) (by kernel_rfl) (by kernel_rfl) (by kernel_rfl) ?_)))))
  refine lRunS 4 [] [(137, .pointer (some ⟨b1, 0, none⟩)), (136, .bool true), (135, .bool true), (134, .bool true)] [] (by kernel_rfl) ?_
  refine lCallP [4, 5] (k19_80 W [] c22 r23 b1 b21 hcc22 hrc22) (by kernel_rfl) (by kernel_rfl) (by kernel_rfl) ?_
  rintro ⟨⟩ -
  refine lRunS 4 [] [(142, .pointer (some ⟨b2, 0, none⟩)), (141, .bool true), (140, .bool true), (139, .bool true)] [] (by kernel_rfl) ?_
  refine lCallP [2, 3] (k19_81 W [] c31 r32 b2 b30 hcc31 hrc31) (by kernel_rfl) (by kernel_rfl) (by kernel_rfl) ?_
  rintro ⟨⟩ -
  refine lRunS 3 [] [(0, .bool true), (145, .bool true), (144, .bool true)] [] (by kernel_rfl) (lEnd (sRet ?_))
  exact wRet () (0, 0) [] (.bool true) [.tmp 0] rfl (by kernel_rfl) rfl trivial (fun _ h => h.pick [11] (by kernel_rfl) (by kernel_rfl))

end Go.Proofs.Ytcobccdeocihbaa
