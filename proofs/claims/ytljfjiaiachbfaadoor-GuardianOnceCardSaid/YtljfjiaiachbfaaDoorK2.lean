/- The walk of awake: it returns true. -/
import Derived.Test.YtljfjiaiachbfaaDoorProg
import Derived.Test.YtljfjiaiachbfaaDoorK1
import Derived.Test.YtljfjiaiachbfaaDoorA3
import Derived.Test.YtljfjiaiachbfaaDoorA5
namespace Go.Proofs.YtljfjiaiachbfaaDoor
open Go.Sx Go.Sx.Gd
set_option maxRecDepth 100000
set_option linter.unusedSimpArgs false
set_option linter.unusedVariables false
def rq0 : Req := ⟨1, 1, ⟨#[120]⟩, 5⟩
theorem aw_do : resV srv0 rq0 = .tuple #[.int .i64 5, .bool true, .int .i64 0] := by
  have h : doK srv0 rq0 = 6 := by decide
  rw [res_k h]; rfl
variable {gT : TypeId} {gF : Nat × Nat}
theorem c_awake (W : World) : CP Tryd.prog W (gB gT gF) 7 #[] [] (.bool true) := by
  intro F
  refine ctIntro Tryd.func7 rfl rfl (by kernel_rfl) ?_
  refine sSeq (rRunS [] [(0, .bool false)] [] (by kernel_rfl) (sSeq (sReg ?_)))
  refine lCallP [] (k24_0 W (gB gT gF)) (by kernel_rfl) (by kernel_rfl) (by kernel_rfl) ?_
  rintro b1 -
  refine lRunS 1 [] [(1, .pointer (some ⟨b1, 0, none⟩))] [] (by kernel_rfl) (lEnd (sSeq (sReg ?_)))
  refine lRunN 4 [] (fun b2 => [(15, .agg #[.int .i64 2, .slice (some ⟨b2, 0, none⟩) 1 1]), (14, .slice (some ⟨b2, 0, none⟩) 1 1), (13, .agg #[.int .i64 0, .int .i64 0, .int .i64 0, .int .i64 0, .int .i64 0, .int .i64 0, .int .i64 0, .string (⟨#[]⟩ : ByteArray), .int .i64 0]), (12, .pointer (some ⟨b1, 0, none⟩))]) (fun b2 => []) (fun b2 => .cells #[.int .i64 0, .int .i64 0, .int .i64 0, .int .i64 0, .int .i64 0, .int .i64 0, .int .i64 0, .string (⟨#[]⟩ : ByteArray), .int .i64 0] 64) (fun b2 => []) (fun b2 => by kernel_rfl) (fun b2 => ?_)
  refine lRunN 2 [] (fun b3 => [(17, .agg #[.string (⟨#[97]⟩ : ByteArray), .int .i64 10, .int .i64 1, .int .i64 3, .int .i64 2, .slice (some ⟨b3, 0, none⟩) 1 1]), (16, .slice (some ⟨b3, 0, none⟩) 1 1)]) (fun b3 => []) (fun b3 => .cells #[.int .i64 2, .slice (some ⟨b2, 0, none⟩) 1 1] 67) (fun b3 => []) (fun b3 => by kernel_rfl) (fun b3 => ?_)
  refine lCallP [0, 3, 2] (k25_1 W (gB gT gF) b1 b3 b2) (by kernel_rfl) (by kernel_rfl) (by kernel_rfl) ?_
  rintro ⟨b4, c5, b6, r7, b8, c9, b10, c11, r12, r13⟩ ⟨hcc5, hrc5, hcc9, hrc9, hcc11, hrc11⟩
  refine lRunS 1 [] [(2, .int .i64 0)] [] (by kernel_rfl) (lEnd (sSeq (sReg (lRunS 1 [] [(20, .pointer (some ⟨b1, 0, none⟩))] [] (by kernel_rfl) ?_))))
  refine lCallP [0, 3, 4, 5, 6] (k26_10 W (gB gT gF) c5 r7 c9 r12 c11 r13 b1 b4 b6 b8 b10 hcc5 hrc5 hcc9 hrc9 hcc11 hrc11) (by kernel_rfl) (by kernel_rfl) (by kernel_rfl) ?_
  rintro ⟨b14, c15, b16, c17, r18, b19, r20⟩ ⟨hcc15, hrc15, hcc17, hrc17⟩
  refine lRunS 5 [] [(4, .int .i64 0), (3, .slice (some ⟨b14, 0, none⟩) 1 c15), (23, .int .i64 0), (22, .slice (some ⟨b14, 0, none⟩) 1 c15), (19, .tuple #[.slice (some ⟨b14, 0, none⟩) 1 c15, .int .i64 0])] [] (by kernel_rfl) (lEnd (sSeq (sReg (lRunS 1 [] [(25, .pointer (some ⟨b1, 0, none⟩))] [] (by kernel_rfl) ?_))))
  refine lCallP [0, 6, 7, 3, 4] (k27_34 W (gB gT gF) c17 r20 c9 r12 c11 r13 b1 b16 b19 b8 b10 hcc17 hrc17 hcc9 hrc9 hcc11 hrc11) (by kernel_rfl) (by kernel_rfl) (by kernel_rfl) ?_
  rintro ⟨⟩ -
  refine lRunN 6 [(4, 12, 0)] (fun b21 => [(6, .int .i64 0), (5, .pointer (some ⟨b21, 0, none⟩)), (28, .int .i64 0), (27, .agg #[.int .i64 0, .int .i64 0, .int .i64 1, .int .i64 30]), (24, .tuple #[.agg #[.int .i64 0, .int .i64 0, .int .i64 1, .int .i64 30], .int .i64 0])]) (fun b21 => []) (fun b21 => .cells #[.int .i64 0, .int .i64 0, .int .i64 1, .int .i64 30] 75) (fun b21 => [b21, b21, b21, b21]) (fun b21 => by kernel_rfl) (fun b21 => ?_)
  refine lEnd (sSeq (sReg ?_))
  refine lCallP [] (c_new8 W (gB gT gF)) (by kernel_rfl) (by kernel_rfl) (by kernel_rfl) ?_
  rintro ⟨sb, am, cm⟩ -
  refine lRunS 1 [] [(7, .pointer (some ⟨sb, 0, none⟩))] [] (by kernel_rfl) (lEnd (sSeq (sReg (lRunS 2 [] [(32, .agg #[.int .i64 1, .int .i64 1, .string (⟨#[120]⟩ : ByteArray), .int .i64 5]), (31, .pointer (some ⟨sb, 0, none⟩))] [] (by kernel_rfl) ?_))))
  refine lCallP [0, 1, 2, 3] (c_do W (gB gT gF) sb am cm sdn srv0 rq0 (by decide) srv0_ok (SD.ok_nil 1)) (by kernel_rfl) (by kernel_rfl) (by kernel_rfl) ?_
  rintro dj hj
  refine lOv (v := .tuple #[.int .i64 5, .bool true, .int .i64 0]) (v0 := resV srv0 rq0) 33 aw_do (by kernel_rfl) (lRunS 7 [] [(10, .int .i64 0), (9, .bool true), (8, .int .i64 5), (36, .int .i64 0), (35, .bool true), (34, .int .i64 5), (30, .tuple #[.int .i64 5, .bool true, .int .i64 0])] [] (by kernel_rfl) (lEnd (sSeq (rRunS [(15, 12, 0), (23, 16, 0)] [(0, .bool true), (74, .bool true), (73, .bool true), (72, .int .i64 0), (71, .bool true), (70, .bool true), (69, .bool true), (68, .bool true), (67, .bool true), (66, .bool true), (65, .int .i64 5), (64, .bool true), (63, .bool true), (62, .bool true), (61, .agg #[.int .i64 0, .int .i64 0, .int .i64 1, .int .i64 30]), (60, .agg #[.int .i64 0, .int .i64 0, .int .i64 1, .int .i64 30]), (59, .bool true), (58, .bool true), (57, .bool true), (56, .int .i64 0), (55, .bool true), (54, .bool true), (53, .bool true), (52, .int .i64 30), (51, .pointer (some ⟨b14, 0, none⟩)), (50, .pointer (some ⟨b14, 0, none⟩)), (49, .slice (some ⟨b14, 0, none⟩) 1 c15), (48, .bool true), (47, .bool true), (46, .bool true), (45, .int .i64 1), (44, .slice (some ⟨b14, 0, none⟩) 1 c15), (43, .bool true), (42, .bool true), (41, .bool true), (40, .int .i64 0), (39, .bool true), (38, .bool true), (37, .int .i64 0)] [b21, b21, b21, b21, b14] (by kernel_rfl) (sRet ?_)))))
  exact wRet () (0, 0) [] (.bool true) [.tmp 0] rfl (by kernel_rfl) rfl trivial (fun _ h => h.pick [14] (by kernel_rfl) (by kernel_rfl))

end Go.Proofs.YtljfjiaiachbfaaDoor
