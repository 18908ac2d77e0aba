/- The walk of awake. -/
import Derived.Test.YtinpojleegfadaaProg
import Derived.Test.YtinpojleegfadaaFv
import Derived.Test.YtinpojleegfadaaA9
import Derived.Test.YtinpojleegfadaaB4
import Derived.Test.YtinpojleegfadaaB5
namespace Go.Proofs.Ytinpojleegfadaa
open Go.Sx Go.Sx.Fr
set_option maxRecDepth 100000
set_option linter.unusedSimpArgs false
set_option linter.unusedVariables false
theorem c_awake (W : World) (base : List Blk) : CP Try.prog W base 8 #[] [] (.bool true) := by
  intro F
  refine ctIntro Try.func8 rfl rfl (by kernel_rfl) ?_
  refine sSeq (rRunS [] [(0, .bool false)] [] (by kernel_rfl) (sSeq (sReg ?_)))
  refine lRunN 3 [] (fun b1 => [(9, .slice (some ⟨b1, 0, none⟩) 2 2), (8, .agg #[.string (⟨#[100, 109, 97]⟩ : ByteArray), .int .i64 8, .int .i64 4, .bool false, .bool false]), (7, .agg #[.string (⟨#[114, 97, 109]⟩ : ByteArray), .int .i64 0, .int .i64 8, .bool true, .bool false])]) (fun b1 => []) (fun b1 => .cells #[.string (⟨#[114, 97, 109]⟩ : ByteArray), .int .i64 0, .int .i64 8, .bool true, .bool false, .string (⟨#[100, 109, 97]⟩ : ByteArray), .int .i64 8, .int .i64 4, .bool false, .bool false] 57) (fun b1 => []) (fun b1 => by kernel_rfl) (fun b1 => ?_)
  refine lRe (its' := [F, SD.blk 57 encPool ⟨some ⟨b1, 0, none⟩, 2, []⟩ awP]) rfl ?_
  refine lCallP [1] (c_New W base ⟨some ⟨b1, 0, none⟩, 2, []⟩ awP (sd_lit2 b1) (by decide)) (by kernel_rfl) (by kernel_rfl) (by kernel_rfl) ?_
  rintro (_ | ⟨T, fs⟩) hr
  · exact absurd aw_new (hr.1 rfl)
  obtain ⟨_, hp, ht, hda, h0⟩ := hr.2 T fs rfl
  refine lOv (v := .tuple #[.pointer (some ⟨T.tb, 0, none⟩), .int .i64 0]) (v0 := .tuple #[.pointer (some ⟨T.tb, 0, none⟩), .int .i64 (newE awP)]) 10 (by rw [aw_new]) (by kernel_rfl) (lRunS 5 [] [(2, .int .i64 0), (1, .pointer (some ⟨T.tb, 0, none⟩)), (12, .int .i64 0), (11, .pointer (some ⟨T.tb, 0, none⟩)), (6, .tuple #[.pointer (some ⟨T.tb, 0, none⟩), .int .i64 0])] [] (by kernel_rfl) (lEnd (sSeq (sSeq (rRunS [] [(18, .bool false), (17, .bool false), (16, .pointer (some ⟨T.tb, 0, none⟩)), (15, .bool false), (14, .bool false), (13, .int .i64 0)] [] (by kernel_rfl) ?_)))))
  refine sIfF (by kernel_rfl) (sSkip (sSeq (sReg (lRunS 2 [] [(21, .agg #[.slice none 0 0, .int .i64 2, .int .i64 1, .bool false, .bool false]), (20, .pointer (some ⟨T.tb, 0, none⟩))] [] (by kernel_rfl) ?_))))
  refine lNilI ?_
  have hw1 := aw_1 hp ht h0
  refine lCallP [1, 2, 3, 4, 5, 7] (c_Alloc W base T fs ht hda ⟨none, 0, []⟩ awR1 (SD.ok_nil 1) (by decide)) (by kernel_rfl) (by kernel_rfl) (by kernel_rfl) ?_
  rintro d1 hd1
  rw [hw1.2] at hd1
  refine lOv (v := .tuple #[.slice d1.a 2 d1.cap, .int .i64 0]) (v0 := .tuple #[.slice d1.a ((allocO T.pools fs awR1).length) d1.cap, .int .i64 (allocE T.pools fs awR1)]) 22 (by rw [hw1.1, hw1.2]; rfl) (by kernel_rfl) ?_
  refine lRe (its' := [[(T.tb, .cells #[.slice (some ⟨T.pb, 0, none⟩) T.pools.length T.pc, .map (some T.ix), .map (some T.fm)] 63)], [(T.pb, .cells (arr encPool T.pools T.pr) 57)], [(T.ix, .map (mkM Value.string T.il) T.ic)], [(T.fm, .map (mkM (Value.int .i64) T.es) T.fc)], frB (allocF T.pools fs [0, 1]), SD.blk 9 encStr ⟨none, 0, []⟩ ([] : List ByteArray), SD.blk 3 encInt d1 ([0, 1] : List Int), SD.blk 57 encPool ⟨some ⟨b1, 0, none⟩, 2, []⟩ awP, F]) (by rw [hw1.2]; rfl) ?_
  refine lRunS 5 [] [(2, .int .i64 0), (3, .slice d1.a 2 d1.cap), (24, .int .i64 0), (23, .slice d1.a 2 d1.cap), (19, .tuple #[.slice d1.a 2 d1.cap, .int .i64 0])] [] (by kernel_rfl) (lEnd (sSeq (sReg (lRunS 2 [] [(27, .agg #[.slice none 0 0, .int .i64 2, .int .i64 4, .bool true, .bool false]), (26, .pointer (some ⟨T.tb, 0, none⟩))] [] (by kernel_rfl) ?_))))
  refine lNilI ?_
  have hw2 := aw_2 hp ht h0
  refine lCallP [0, 1, 2, 3, 4, 5] (c_Alloc W base T (allocF T.pools fs [0, 1]) (allocF_ok ht) (allocF_nodata hda) ⟨none, 0, []⟩ awR2 (SD.ok_nil 1) (by decide)) (by kernel_rfl) (by kernel_rfl) (by kernel_rfl) ?_
  rintro d2 hd2
  rw [hw2.2] at hd2
  refine lOv (v := .tuple #[.slice d2.a 2 d2.cap, .int .i64 0]) (v0 := .tuple #[.slice d2.a ((allocO T.pools (allocF T.pools fs [0, 1]) awR2).length) d2.cap, .int .i64 (allocE T.pools (allocF T.pools fs [0, 1]) awR2)]) 28 (by rw [hw2.1, hw2.2]; rfl) (by kernel_rfl) ?_
  refine lRe (its' := [[(T.tb, .cells #[.slice (some ⟨T.pb, 0, none⟩) T.pools.length T.pc, .map (some T.ix), .map (some T.fm)] 63)], [(T.pb, .cells (arr encPool T.pools T.pr) 57)], [(T.ix, .map (mkM Value.string T.il) T.ic)], [(T.fm, .map (mkM (Value.int .i64) T.es) T.fc)], frB (allocF T.pools (allocF T.pools fs [0, 1]) [4, 5]), SD.blk 9 encStr ⟨none, 0, []⟩ ([] : List ByteArray), SD.blk 3 encInt d2 ([4, 5] : List Int), SD.blk 3 encInt d1 ([0, 1] : List Int), SD.blk 57 encPool ⟨some ⟨b1, 0, none⟩, 2, []⟩ awP, F, SD.blk 9 encStr ⟨none, 0, []⟩ ([] : List ByteArray)]) (by rw [hw2.2]; rfl) ?_
  refine lRunS 5 [] [(5, .int .i64 0), (4, .slice d2.a 2 d2.cap), (30, .int .i64 0), (29, .slice d2.a 2 d2.cap), (25, .tuple #[.slice d2.a 2 d2.cap, .int .i64 0])] [] (by kernel_rfl) (lEnd (sSeq (sReg ?_)))
  refine lRunN 9 [] (fun b2 => [(39, .slice (some ⟨b2, 0, none⟩) 2 2), (38, .slice d1.a 2 d1.cap), (37, .bool true), (36, .bool true), (35, .bool true), (34, .int .i64 0), (33, .bool true), (32, .bool true), (31, .int .i64 0)]) (fun b2 => []) (fun b2 => .cells #[.int .i64 0, .int .i64 1] 3) (fun b2 => []) (fun b2 => by kernel_rfl) (fun b2 => ?_)
  refine lRe (its' := [[(T.tb, .cells #[.slice (some ⟨T.pb, 0, none⟩) T.pools.length T.pc, .map (some T.ix), .map (some T.fm)] 63)], [(T.pb, .cells (arr encPool T.pools T.pr) 57)], [(T.ix, .map (mkM Value.string T.il) T.ic)], [(T.fm, .map (mkM (Value.int .i64) T.es) T.fc)], frB (allocF T.pools (allocF T.pools fs [0, 1]) [4, 5]), SD.blk 9 encStr ⟨none, 0, []⟩ ([] : List ByteArray), SD.blk 3 encInt d2 ([4, 5] : List Int), SD.blk 3 encInt d1 ([0, 1] : List Int), SD.blk 57 encPool ⟨some ⟨b1, 0, none⟩, 2, []⟩ awP, F, SD.blk 9 encStr ⟨none, 0, []⟩ ([] : List ByteArray), SD.blk 3 encInt ⟨some ⟨b2, 0, none⟩, 2, []⟩ ([0, 1] : List Int)]) rfl ?_
  refine lCallR [7, 11] [2, 3, 4, 5, 6, 7, 8, 0, 9, 10, 11, 1] (c_Equal W base d1 ⟨some ⟨b2, 0, none⟩, 2, []⟩ [0, 1] [0, 1] hd1 (sd_lit2 b2) (by decide) (by decide)) (by kernel_rfl) (by kernel_rfl) (by kernel_rfl) (by kernel_rfl) (by kernel_rfl) ?_
  refine lRunN 4 [] (fun b3 => [(44, .slice (some ⟨b3, 0, none⟩) 2 2), (43, .slice d2.a 2 d2.cap), (42, .bool true), (41, .bool true)]) (fun b3 => []) (fun b3 => .cells #[.int .i64 4, .int .i64 5] 3) (fun b3 => []) (fun b3 => by kernel_rfl) (fun b3 => ?_)
  refine lRe (its' := [[(T.tb, .cells #[.slice (some ⟨T.pb, 0, none⟩) T.pools.length T.pc, .map (some T.ix), .map (some T.fm)] 63)], [(T.pb, .cells (arr encPool T.pools T.pr) 57)], [(T.ix, .map (mkM Value.string T.il) T.ic)], [(T.fm, .map (mkM (Value.int .i64) T.es) T.fc)], frB (allocF T.pools (allocF T.pools fs [0, 1]) [4, 5]), SD.blk 9 encStr ⟨none, 0, []⟩ ([] : List ByteArray), SD.blk 3 encInt d2 ([4, 5] : List Int), SD.blk 3 encInt d1 ([0, 1] : List Int), SD.blk 57 encPool ⟨some ⟨b1, 0, none⟩, 2, []⟩ awP, F, SD.blk 9 encStr ⟨none, 0, []⟩ ([] : List ByteArray), SD.blk 3 encInt ⟨some ⟨b2, 0, none⟩, 2, []⟩ ([0, 1] : List Int), SD.blk 3 encInt ⟨some ⟨b3, 0, none⟩, 2, []⟩ ([4, 5] : List Int)]) rfl ?_
  refine lCallR [6, 12] [2, 3, 4, 5, 6, 7, 0, 8, 9, 10, 11, 12, 1] (c_Equal W base d2 ⟨some ⟨b3, 0, none⟩, 2, []⟩ [4, 5] [4, 5] hd2 (sd_lit2 b3) (by decide) (by decide)) (by kernel_rfl) (by kernel_rfl) (by kernel_rfl) (by kernel_rfl) (by kernel_rfl) (lRunS 2 [] [(0, .bool true), (46, .bool true)] [] (by kernel_rfl) (lEnd (sRet ?_)))
  exact wRet () (0, 0) [] (.bool true) [.tmp 0] rfl (by kernel_rfl) rfl trivial (fun _ h => h.pick [9] (by kernel_rfl) (by kernel_rfl))

end Go.Proofs.Ytinpojleegfadaa
