/- The walks of request and Clone. -/
import Derived.Test.YtinpojleegfadaaProg
import Derived.Test.YtinpojleegfadaaFt
set_option linter.unusedVariables false
set_option linter.unusedSimpArgs false
namespace Go.Proofs.Ytinpojleegfadaa
open Go.Sx Go.Sx.Fr
set_option maxRecDepth 100000
set_option linter.unusedSimpArgs false
theorem c_request (W : World) (base : List Blk) (x : ActS) (hb : BS W encStr x.pa x.pools) (hn : x.pools.length ≤ 20) :
    CF Try.prog W base 12 #[.agg #[.int .u8 x.do_, .slice x.pa x.pools.length x.pcap, .int .i64 x.a, .int .i64 x.b, .int .i64 x.n, .bool x.contig, .bool x.top, .slice x.da x.data.length x.dcap]] [] (fun d : SD => .agg #[.slice d.a x.pools.length d.cap, .int .i64 x.n, .int .i64 x.a, .bool x.contig, .bool x.top]) (fun d => [SD.blk 9 encStr d x.pools]) (fun d => d.ok 1 x.pools.length) := by
  intro F
  refine ctIntro Try.func12 rfl rfl (by kernel_rfl) ?_
  refine sSeq (sReg ?_)
  refine lRunN 1 [] (fun b1 => [(1, .pointer (some ⟨b1, 0, none⟩))]) (fun b1 => []) (fun b1 => .cells #[.int .u8 x.do_, .slice x.pa x.pools.length x.pcap, .int .i64 x.a, .int .i64 x.b, .int .i64 x.n, .bool x.contig, .bool x.top, .slice x.da x.data.length x.dcap] 38) (fun b1 => []) (fun b1 => by kernel_rfl) (fun b1 => ?_)
  refine lRunN 1 [] (fun b2 => [(2, .pointer (some ⟨b2, 0, none⟩))]) (fun b2 => []) (fun b2 => .cells #[.slice none 0 0, .int .i64 0, .int .i64 0, .bool false, .bool false] 43) (fun b2 => []) (fun b2 => by kernel_rfl) (fun b2 => ?_)
  refine lEnd (sSeq ?_)
  refine rHeld (by kernel_rfl) (by kernel_rfl) [F, [(b1, .cells #[.int .u8 x.do_, .slice x.pa x.pools.length x.pcap, .int .i64 x.a, .int .i64 x.b, .int .i64 x.n, .bool x.contig, .bool x.top, .slice x.da x.data.length x.dcap] 38)]] ?_
  refine hTakes [1, 2, 4, 5, 6, 7, 8, 9, 10, 11] [(2, 2, 0), (5, 2, 0), (7, 2, 0), (9, 2, 0), (11, 2, 0)] [0, 1] [(14, .bool x.top), (13, .pointer (some ⟨b1, 6, none⟩)), (12, .bool x.contig), (11, .pointer (some ⟨b1, 5, none⟩)), (10, .int .i64 x.a), (9, .pointer (some ⟨b1, 2, none⟩)), (8, .int .i64 x.n), (7, .pointer (some ⟨b1, 4, none⟩)), (5, .slice x.pa x.pools.length x.pcap), (4, .pointer (some ⟨b1, 1, none⟩))] [b1, b1, b1, b1, b1] (by kernel_rfl) (by kernel_rfl) (by kernel_rfl) (by kernel_rfl) ?_
  refine hOS 0 [0, 1] (OS.run1 (0, 0) (fun b3 => .slice (some ⟨b3, 0, none⟩) 0 0) (fun b3 => [F, [(b1, .cells #[.int .u8 x.do_, .slice x.pa x.pools.length x.pcap, .int .i64 x.a, .int .i64 x.b, .int .i64 x.n, .bool x.contig, .bool x.top, .slice x.da x.data.length x.dcap] 38)], [(b2, .cells #[.slice none 0 0, .int .i64 0, .int .i64 0, .bool false, .bool false] 43)], [(b3, .cells #[] 9)]]) (fun b3 => []) (by kernel_rfl) (fun b3 => by kernel_rfl)) (by kernel_rfl) (by kernel_rfl) (by kernel_rfl) (fun _ => by kernel_rfl) ?_
  rintro b3 -
  refine hOS 3 [0, 1] (OS.x (u := fun d' : SD => .slice d'.a (0 + x.pools.length) d'.cap) (by kernel_rfl) (by kernel_rfl) (runAppendS (t := 35) (ty := 35) (sa := x.pa) (c2 := x.pcap) (m := x.pools.length) (k := 1) (e := 9) (by_ := 16) (z := [.string ⟨#[]⟩]) (f := encStr) (fun _ => rfl) ⟨some ⟨b3, 0, none⟩, 0, []⟩ [] x.pools 0 3 (by kernel_rfl) (by kernel_rfl) rfl rfl (by kernel_rfl) rfl (SD.ok_lit b3 0) (srcB hb) (fun _ _ _ hu => one_encStr hu) rfl (by omega) (by omega)) (fun _ => by kernel_rfl)) (by kernel_rfl) (by kernel_rfl) (by kernel_rfl) (fun _ => by kernel_rfl) ?_
  rintro d4 okd4
  refine hTakes [12] [] [0, 1] [(15, .agg #[.slice d4.a (0 + x.pools.length) d4.cap, .int .i64 x.n, .int .i64 x.a, .bool x.contig, .bool x.top])] [] (by kernel_rfl) (by kernel_rfl) (by kernel_rfl) (by kernel_rfl) ?_
  refine hOS 13 [0, 1] (OS.run (3, 0) undef [F, [(b1, .cells #[.int .u8 x.do_, .slice x.pa x.pools.length x.pcap, .int .i64 x.a, .int .i64 x.b, .int .i64 x.n, .bool x.contig, .bool x.top, .slice x.da x.data.length x.dcap] 38)], [(b2, .cells #[.slice d4.a (0 + x.pools.length) d4.cap, .int .i64 x.n, .int .i64 x.a, .bool x.contig, .bool x.top] 43)], SD.blk 9 encStr d4 ([] ++ x.pools)] [b2, b2, b2, b2, b2] (by kernel_rfl) (by kernel_rfl)) (by kernel_rfl) (by kernel_rfl) (by kernel_rfl) (fun _ => by kernel_rfl) ?_
  rintro ⟨⟩ -
  refine hEnd (by kernel_rfl) (sRet ?_)
  refine wfRe (its' := [F, [(b1, .cells #[.int .u8 x.do_, .slice x.pa x.pools.length x.pcap, .int .i64 x.a, .int .i64 x.b, .int .i64 x.n, .bool x.contig, .bool x.top, .slice x.da x.data.length x.dcap] 38)], [(b2, .cells #[.slice d4.a (0 + x.pools.length) d4.cap, .int .i64 x.n, .int .i64 x.a, .bool x.contig, .bool x.top] 43)], SD.blk 9 encStr d4 x.pools]) rfl ?_
  exact wRet d4 (3, 0) [b2, b2, b2, b2, b2] (.agg #[.slice d4.a (0 + x.pools.length) d4.cap, .int .i64 x.n, .int .i64 x.a, .bool x.contig, .bool x.top]) [.cell 2 43] rfl (by kernel_rfl) (by rw [Nat.zero_add]) (by simpa using okd4) (fun _ h => h.pick [3, 0] (by kernel_rfl) (by kernel_rfl))

theorem c_Clone (W : World) (base : List Blk) (s0 : SD) (xs : List PoolS) (hs : s0.ok 5 xs.length) (h0 : 0 < xs.length) (hn : xs.length ≤ 20) :
    CF Try.prog W base 18 #[.slice s0.a xs.length s0.cap] [SD.blk 57 encPool s0 xs] (fun d : SD => .slice d.a xs.length d.cap) (fun d => [SD.blk 57 encPool s0 xs, SD.blk 57 encPool d xs]) (fun d => d.ok 5 xs.length) := by
  obtain ⟨q, hq⟩ := sd_at hs h0
  intro F
  refine ctIntro Try.func18 rfl rfl (by kernel_rfl) ?_
  refine sSeq (rRunS [] [(2, .slice none 0 0)] [] (by kernel_rfl) (sSeq (sSeq (sReg (lRunS 1 [] [(3, .slice s0.a xs.length s0.cap)] [] (by kernel_rfl) ?_)))))
  refine lOv (v := .slice (some ⟨q, 0, none⟩) xs.length s0.cap) (v0 := .slice s0.a xs.length s0.cap) 3 (by rw [hq]) (by kernel_rfl) (lRunS 1 [] [(4, .bool false)] [] (by kernel_rfl) (lEnd (sIfF (by kernel_rfl) (sSkip (sSeq ?_)))))
  refine sReg ?_
  refine lRunN 2 [] (fun b1 => [(6, .slice s0.a xs.length s0.cap), (5, .slice (some ⟨b1, 0, none⟩) 0 0)]) (fun b1 => []) (fun b1 => .cells #[] 57) (fun b1 => []) (fun b1 => by kernel_rfl) (fun b1 => ?_)
  refine lX (u := fun d' : SD => .slice d'.a (0 + xs.length) d'.cap) (runAppendS (t := 32) (ty := 32) (sa := s0.a) (c2 := s0.cap) (m := xs.length) (k := 5) (e := 57) (by_ := 40) (z := [.string ⟨#[]⟩, .int .i64 0, .int .i64 0, .bool false, .bool false]) (f := encPool) (fun _ => rfl) ⟨some ⟨b1, 0, none⟩, 0, []⟩ [] (xs.take xs.length) 0 2 (by kernel_rfl) (by kernel_rfl) rfl rfl (by kernel_rfl) rfl (SD.ok_lit b1 0) (srcD (T := 57) (f := encPool) (fun _ => rfl) xs 0 xs.length hs rfl (Nat.le_refl _) (by kernel_rfl)) (fun _ _ _ hu => one_encPool hu) (by rw [List.length_take, (rfl : xs.length = xs.length)]; omega) (by omega) (by omega)) (by kernel_rfl) (by kernel_rfl) (fun _ => by kernel_rfl) ?_
  rintro d2 okd2
  refine lRunS 1 [] [(2, .slice d2.a (0 + xs.length) d2.cap)] [] (by kernel_rfl) (lEnd (sRet ?_))
  refine wfRe (its' := [SD.blk 57 encPool s0 xs, F, SD.blk 57 encPool d2 xs]) (by rw [List.take_length]; rfl) ?_
  exact wRet d2 (0, 0) [] (.slice d2.a (0 + xs.length) d2.cap) [.tmp 2] rfl (by kernel_rfl) (by rw [Nat.zero_add]) (by simpa using okd2) (fun _ h => h.pick [0, 2, 1] (by kernel_rfl) (by kernel_rfl))

end Go.Proofs.Ytinpojleegfadaa
