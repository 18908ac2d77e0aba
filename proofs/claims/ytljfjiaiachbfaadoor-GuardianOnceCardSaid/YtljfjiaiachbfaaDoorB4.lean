/- The walks of Clone, of Equal with a source, and of the reference's Recover. -/
import Derived.Test.YtljfjiaiachbfaaDoorProg
import Derived.Test.YtljfjiaiachbfaaDoorM4
import Derived.Test.YtljfjiaiachbfaaDoorA4
import Derived.Test.YtljfjiaiachbfaaDoorA5
import Derived.Test.YtljfjiaiachbfaaDoorA6
import Derived.Test.YtljfjiaiachbfaaDoorB1
import Derived.Test.YtljfjiaiachbfaaDoorB2
import Derived.Test.YtljfjiaiachbfaaDoorB3
namespace Go.Proofs.YtljfjiaiachbfaaDoor
open Go.Sx Go.Sx.Gd
set_option maxRecDepth 100000
set_option linter.unusedSimpArgs false
set_option linter.unusedVariables false
def SrcA (W : World) (D : List Blk) (a : Option Addr) (xs : List UInt8) : Prop := xs = [] ∨ ∃ qb qo, a = some ⟨qb, qo, none⟩ ∧ Src W D qb qo xs
section
variable {P : Program} {W : World} {base : List Blk} {its : Items}
theorem seqNil (w : World) (d : Nat) (t e : TypeId) (a : Option Addr) (l c : Nat) (h : P.underlying t = some (.slice e)) : (Op.equalIn (d + 1) t (.slice a l c) (.slice none 0 0)).run P w = .ok a.isNone w := by
  cases a <;> simp [Op.equalIn, run_underlying h]
theorem runSliceNil {T e : TypeId} {o1 o2 : Operand} {a : Option Addr} {n c : Nat} (hT : P.underlying T = some (.slice e)) :
    RunR P W base its (do pure (Next.value (← (do eqGuard .eql T o1 o2 (.slice a n c) (.slice none 0 0); binOp .eql T (.slice a n c) (.slice none 0 0))))) (.value (.bool a.isNone)) := by
  intro _ w _
  have h : (Op.equal T (.slice a n c) (.slice none 0 0)).run P w = .ok a.isNone w := seqNil w 9999 T e a n c hT
  have hb : (binOp .eql T (.slice a n c) (.slice none 0 0)).run P w = .ok (.bool a.isNone) w := by
    show (do pure (Value.bool (← Op.equal T (.slice a n c) (.slice none 0 0))) : Sem Value).run P w = _
    rw [Sem.run_bind, h]; rfl
  show (do pure (Next.value (← binOp .eql T (.slice a n c) (.slice none 0 0))) : Sem Next).run P w = _
  rw [Sem.run_bind, hb]; rfl
theorem srcAA {a : Option Addr} {D : List Blk} {xs : List UInt8} {m : Nat} (h : SrcA W D a xs) (hm : xs.length = m) (i : Nat) (hi : its[i]? = some D) : BaseOk W base → ∀ w, SatI W w its → m = 0 ∨ ∃ p, a = some p ∧ ∀ j u, (xs.flatMap encByte)[j]? = some u → w.cell? (p.add j) = some u := by
  intro hb w hs
  rcases h with h | ⟨qb, qo, rfl, h⟩
  · subst h; exact .inl hm.symm
  · exact hm ▸ srcSrc h i hi hb w hs
theorem runStrA {src dst e m c : Nat} {a : Option Addr} {D : List Blk} {xs : List UInt8} (h : SrcA W D a xs) (i : Nat) (hi : its[i]? = some D) (hm : xs.length = m) (hs0 : P.underlying src = some (.slice e)) (hd0 : P.underlying dst = some .string) (he : P.underlying e = some (.int .u8)) :
    RunR P W base its (do pure (Next.value (← convert src dst (.slice a m c)))) (.value (.string ⟨xs.toArray⟩)) := by
  rcases h with h | ⟨qb, qo, rfl, h⟩
  · subst h
    subst hm
    intro hbase w hs
    have h0 : (convert src dst (.slice a 0 c)).run P w = .ok (.string ⟨#[]⟩) w := by
      rw [run_convert_bytes_string w src dst e a 0 c hs0 he hd0]
      cases a with
      | none => simp [Conv.bytesToString]; rfl
      | some a => simp [Conv.bytesToString, loadCells, loadCellsFrom]; rfl
    show (do pure (Next.value (← convert src dst (.slice a 0 c))) : Sem Next).run P w = _
    rw [Sem.run_bind, h0]; rfl
  · exact runStrSrc h i hi hm hs0 hd0 he
end
theorem SrcA.ofD {W : World} {d : SD} {xs : List UInt8} {n : Nat} (hn : xs.length = n) (hd : d.ok 1 n) : SrcA W (SD.blk 5 encByte d xs) d.a xs := by
  rcases Nat.eq_zero_or_pos n with h | h
  · exact .inl (List.eq_nil_of_length_eq_zero (hn.trans h))
  · obtain ⟨q, hq⟩ := sd_at hd h
    exact .inr ⟨q, 0, hq, Src.ofD hq⟩
theorem SrcA.ofB {W : World} {a : Option Addr} {xs : List UInt8} (h : BS W encByte a xs) : SrcA W [] a xs := by
  rcases h with h | ⟨b, o, ha, h⟩
  · exact .inl h
  · exact .inr ⟨b, o, ha, Src.ofB h⟩
theorem SrcA.take {W : World} {D : List Blk} {a : Option Addr} {xs : List UInt8} (h : SrcA W D a xs) (n : Nat) : SrcA W D a (xs.take n) := by
  rcases h with h | ⟨b, o, ha, h⟩
  · exact .inl (by rw [h]; simp)
  · exact .inr ⟨b, o, ha, (h.sub 0 n).re (by omega) (by simp)⟩
theorem recF_no {f : Nat} {b : List UInt8} {p : Nat} {s : Srv} (h : ¬ okAt (b.drop p)) : recF f b p s = (s, p) := by
  cases f with
  | zero => rfl
  | succ f => simp only [recF]; rw [if_neg h]
theorem recF_stop {f : Nat} {b : List UInt8} {p : Nat} {s : Srv} (hk : doK s (reqAt (b.drop p)) ≠ 6) : recF f b p s = (s, p) := by
  cases f with
  | zero => rfl
  | succ f => simp only [recF]; rw [if_neg hk]; split <;> rfl
theorem recF_yes {f : Nat} {b : List UInt8} {p : Nat} {s : Srv} (h : okAt (b.drop p)) (hk : doK s (reqAt (b.drop p)) = 6) (hf : 0 < f) : recF f b p s = recF (f - 1) b (p + (szAt (b.drop p) + 4)) (doS s (reqAt (b.drop p))) := by
  cases f with
  | zero => omega
  | succ f => simp only [recF]; rw [if_pos h, if_pos hk]; rfl

theorem c_clone (W : World) (base : List Blk) {D : List Blk} (a : Option Addr) (m c : Nat) (bs : List UInt8) (hA : SrcA W D a bs) (hm : bs.length = m) (hmx : m ≤ 1000000) :
    CF Tryd.prog W base 20 #[.slice a m c] [D] (fun d : SD => .slice d.a m d.cap) (fun d => [D, SD.blk 5 encByte d bs]) (fun d => d.ok 1 m) := by
  intro F
  refine ctIntro Tryd.func20 rfl rfl (by kernel_rfl) ?_
  refine sSeq (rRunS [] [(2, .slice none 0 0)] [] (by kernel_rfl) (sSeq (sSeq (sReg (lRunS 1 [] [(3, .slice a m c)] [] (by kernel_rfl) ?_)))))
  refine lR (u := .bool a.isNone) (runSliceNil (T := 40) (e := 5) (o1 := (.tmp 3)) (o2 := (.const (.slice none 0 0))) (a := a) (n := m) (c := c) (by kernel_rfl)) (by kernel_rfl) (by kernel_rfl) (by kernel_rfl) ?_
  rcases Bool.eq_false_or_eq_true a.isNone with h1 | h1
  · refine lOv (v := .bool true) (v0 := .bool a.isNone) 4 (congrArg Value.bool h1) (by kernel_rfl) (lEnd (sIfT (by kernel_rfl) (sSeq (rRunS [] [(2, .slice none 0 0)] [] (by kernel_rfl) (sRet ?_)))))
    have hn : bs = [] := hA.resolve_right (by rintro ⟨qb, qo, rfl, _⟩; simp at h1)
    subst hn
    subst hm
    refine wfRe (its' := [D, F, SD.blk 5 encByte sdn []]) rfl ?_
    exact wRet sdn (0, 0) [] (.slice none 0 0) [.tmp 2] rfl (by kernel_rfl) rfl (SD.ok_nil 1) (fun _ h => h.pick [0, 2, 1] (by kernel_rfl) (by kernel_rfl))
  · refine lOv (v := .bool false) (v0 := .bool a.isNone) 4 (congrArg Value.bool h1) (by kernel_rfl) (lEnd (sIfF (by kernel_rfl) (sSkip (sSeq (sReg ?_)))))
    refine lRunN 2 [] (fun b1 => [(6, .slice a m c), (5, .slice (some ⟨b1, 0, none⟩) 0 0)]) (fun b1 => []) (fun b1 => .cells #[] 5) (fun b1 => []) (fun b1 => by kernel_rfl) (fun b1 => ?_)
    refine lX (u := fun d' : SD => .slice d'.a (0 + m) d'.cap) (runAppendS (t := 40) (ty := 40) (sa := a) (c2 := c) (m := m) (k := 1) (e := 5) (by_ := 1) (z := [.int .u8 0]) (f := encByte) (fun _ => rfl) ⟨some ⟨b1, 0, none⟩, 0, []⟩ [] bs 0 2 (by kernel_rfl) (by kernel_rfl) rfl rfl (by kernel_rfl) rfl (SD.ok_lit b1 0) (srcAA hA hm 0 (by kernel_rfl)) (fun _ _ _ hu => one_encByte hu) hm (by omega) (by omega)) (by kernel_rfl) (by kernel_rfl) (fun _ => by kernel_rfl) ?_
    rintro d2 okd2
    refine lRunS 1 [] [(2, .slice d2.a (0 + m) d2.cap)] [] (by kernel_rfl) (lEnd (sRet ?_))
    refine wfRe (its' := [D, F, SD.blk 5 encByte d2 bs]) (by rfl) ?_
    exact wRet d2 (0, 0) [] (.slice d2.a (0 + m) d2.cap) [.tmp 2] rfl (by kernel_rfl) (by rw [Nat.zero_add]) (by have h := okd2; rwa [Nat.zero_add] at h) (fun _ h => h.pick [0, 2, 1] (by kernel_rfl) (by kernel_rfl))

theorem c_bequalS (W : World) (base : List Blk) {D : List Blk} (d : SD) (a : Option Addr) (n m c : Nat) (xs ys : List UInt8) (hn : xs.length = n) (hd : d.ok 1 n) (hA : SrcA W D a ys) (hm : ys.length = m) : CP Tryd.prog W base 16 #[.slice d.a n d.cap, .slice a m c] [SD.blk 5 encByte d xs, D] (.bool (decide (xs = ys))) := by
  intro F
  refine ctIntro Tryd.func16 rfl rfl (by kernel_rfl) ?_
  refine sSeq (rRunS [] [(4, .bool false)] [] (by kernel_rfl) (sSeq (sReg (lRunS 1 [] [(5, .slice d.a n d.cap)] [] (by kernel_rfl) (lR (u := .string (⟨xs.toArray⟩ : ByteArray)) (runBytesStr (f := encByte) (fun _ => rfl) (src := 40) (dst := 9) (e := 5) (n := n) (i := 0) (T' := 5) d xs (by kernel_rfl) (by kernel_rfl) (by kernel_rfl) (by kernel_rfl) hn hd) (by kernel_rfl) (by kernel_rfl) (by kernel_rfl) ?_)))))
  refine lRunS 1 [] [(7, .slice a m c)] [] (by kernel_rfl) (lR (u := .string (⟨ys.toArray⟩ : ByteArray)) (runStrA (src := 40) (dst := 9) (e := 5) (m := m) (c := c) (xs := ys) hA 1 (by kernel_rfl) hm (by kernel_rfl) (by kernel_rfl) (by kernel_rfl)) (by kernel_rfl) (by kernel_rfl) (by kernel_rfl) (lRunS 2 [] [(4, .bool ((⟨xs.toArray⟩ : ByteArray).toList == (⟨ys.toArray⟩ : ByteArray).toList)), (9, .bool ((⟨xs.toArray⟩ : ByteArray).toList == (⟨ys.toArray⟩ : ByteArray).toList))] [] (by kernel_rfl) (lEnd (sRet ?_))))
  exact wRet () (0, 0) [] (.bool ((⟨xs.toArray⟩ : ByteArray).toList == (⟨ys.toArray⟩ : ByteArray).toList)) [.tmp 4] rfl (by kernel_rfl) (congrArg Value.bool (by rw [Bool.eq_iff_iff, beq_iff_eq, decide_eq_true_iff]; exact ⟨fun h => by have := ba_inj h; simpa using this, fun h => by rw [h]⟩)) trivial (fun _ h => h)

theorem c_rrecover (W : World) (base : List Blk) {D : List Blk} (a : Option Addr) (m c : Nat) (bs : List UInt8) (hA : SrcA W D a bs) (hm : bs.length = m) (hmc : m ≤ c) (hmx : m ≤ 1000000) :
    CF Tryd.prog W base 21 #[.slice a m c] [D] (fun x : Nat × SD × SD × SD => .tuple #[.pointer (some ⟨x.1, 0, none⟩), .int .i64 (((recM bs).2 : Nat) : Int)]) (fun x => [[(x.1, .cells #[.slice x.2.1.a (((recM bs).1).acc.length) x.2.1.cap, .slice x.2.2.1.a (((recM bs).1).cli.length) x.2.2.1.cap, .slice x.2.2.2.a (((recM bs).1).jr.length) x.2.2.2.cap, .int .i64 ((((recM bs).1).cnt : Nat) : Int)] 86)], SD.blk 94 encAcc x.2.1 (((recM bs).1).acc), SD.blk 92 encCli x.2.2.1 (((recM bs).1).cli), SD.blk 5 encByte x.2.2.2 (((recM bs).1).jr), D])
      (fun x => x.2.1.ok 2 (recM bs).1.acc.length ∧ x.2.2.1.ok 5 (recM bs).1.cli.length ∧ x.2.2.2.ok 1 (recM bs).1.jr.length) := by
  intro F
  refine ctIntro Tryd.func21 rfl rfl (by kernel_rfl) ?_
  refine sSeq (rRunS [] [(3, .int .i64 0), (2, .pointer none)] [] (by kernel_rfl) (sSeq (sReg ?_)))
  refine lCallP [] (c_new9 W base) (by kernel_rfl) (by kernel_rfl) (by kernel_rfl) ?_
  rintro rb -
  refine lRunS 1 [] [(4, .pointer (some ⟨rb, 0, none⟩))] [] (by kernel_rfl) (lEnd (sSeq (rRunS [] [(5, .int .i64 0)] [] (by kernel_rfl) (sSeq (sBlock ?_)))))
  refine sPick (its' := [[(rb, .cells #[.slice sdn.a srv0.acc.length sdn.cap, .slice sdn.a srv0.cli.length sdn.cap, .slice sdn.a srv0.jr.length sdn.cap, .int .i64 ((srv0.cnt : Nat) : Int)] 86)], SD.blk 94 encAcc sdn srv0.acc, SD.blk 92 encCli sdn srv0.cli, SD.blk 5 encByte sdn srv0.jr, D, F]) [0, 1, 2, 3, 4, 5] (by kernel_rfl) (by kernel_rfl) ?_
  refine sLoop (fun (x_ : Nat × Nat × Srv × SD × SD × SD) => match x_ with | (p, f, s, da, dc, dj) => [(5, .int .i64 (p : Int)), (4, .pointer (some ⟨rb, 0, none⟩)), (0, .slice a m c)]) (fun (x_ : Nat × Nat × Srv × SD × SD × SD) => match x_ with | (p, f, s, da, dc, dj) => [[(rb, .cells #[.slice da.a s.acc.length da.cap, .slice dc.a s.cli.length dc.cap, .slice dj.a s.jr.length dj.cap, .int .i64 ((s.cnt : Nat) : Int)] 86)], SD.blk 94 encAcc da s.acc, SD.blk 92 encCli dc s.cli, SD.blk 5 encByte dj s.jr, D, F]) (fun (x_ : Nat × Nat × Srv × SD × SD × SD) => match x_ with | (p, f, s, da, dc, dj) => p ≤ m ∧ m ≤ p + f ∧ recF f bs p s = recM bs ∧ SrvOk s ∧ da.ok 2 s.acc.length ∧ dc.ok 5 s.cli.length ∧ dj.ok 1 s.jr.length) (fun (x_ : Nat × Nat × Srv × SD × SD × SD) => match x_ with | (p, f, s, da, dc, dj) => m - p) (0, bs.length, srv0, sdn, sdn, sdn) ⟨by omega, by omega, rfl, srv0_ok, SD.ok_nil 2, SD.ok_nil 5, SD.ok_nil 1⟩ (by kernel_rfl) rfl ?_
  rintro ⟨p, f, s, da, dc, dj⟩ ⟨hp, hf, hF, hs, hda, hdc, hdj⟩
  refine sSeq (sSeq (sReg (lRunS 4 [] [(16, .int .i64 (IntKind.i64.wrap ((m : Int) - (p : Int)))), (15, .int .i64 (p : Int)), (14, .int .i64 (m : Int)), (13, .slice a m c)] [] (by kernel_rfl) (lOv 16 (iw (x := (m : Int) - (p : Int)) (by omega)) (by kernel_rfl) (lRunS 1 [] [(17, .bool (decide (((m : Int) - (p : Int)) ≥ (25 : Int))))] [] (by kernel_rfl) ?_)))))
  refine lEnd ?_
  refine sIfP (bpD (((m : Int) - (p : Int)) ≥ (25 : Int))) (by kernel_rfl) (fun h1 => ?_) (fun h1 => ?_)
  · obtain ⟨qb, qo, rfl, hS⟩ := hA.resolve_left (by rintro rfl; simp at hm; omega)
    refine sSkip (sBlock (sSeq (sReg (lRunS 2 [] [(19, .int .i64 (p : Int)), (18, .slice (some ⟨qb, qo, none⟩) m c)] [] (by kernel_rfl) (lR (u := .slice (some ⟨qb, qo + p * 1, none⟩) (m - p) (c - p)) (runSliceLo (T := 40) (E := 5) (n := m) (c := c) (b := qb) (o := qo) (k := 1) (ik := .i64) p (by kernel_rfl) (by kernel_rfl) (by omega) (by omega)) (by kernel_rfl) (by kernel_rfl) (by kernel_rfl) ?_)))))
    refine lRunS 1 [] [(6, .slice (some ⟨qb, qo + p * 1, none⟩) (m - p) (c - p))] [] (by kernel_rfl) (lEnd (sSeq (sReg (lRunS 1 [] [(21, .slice (some ⟨qb, qo + p * 1, none⟩) (m - p) (c - p))] [] (by kernel_rfl) (lR (u := .pointer (some ⟨qb, qo + p * 1 + 20 * 1, none⟩)) (runIndex (T := 40) (E := 5) (n := m - p) (c := c - p) (b := qb) (o := qo + p * 1) (k := 1) (ik := .i64) 20 (by kernel_rfl) (by kernel_rfl) (by omega)) (by kernel_rfl) (by kernel_rfl) (by kernel_rfl) ?_)))))
    obtain ⟨x1, hx1⟩ : ∃ x, bs[p + 20]? = some x := ⟨_, List.getElem?_eq_getElem (by (try simp only [List.length_set, List.length_append, List.length_replicate, List.length_cons, List.length_nil]); omega)⟩
    refine lR (u := .int .u8 ((x1.toNat : Nat) : Int)) (runLoadSrc (T := 5) (p := qo + p * 1 + 20 * 1) (x := x1) hS 4 (by kernel_rfl) hx1 (by omega) (by kernel_rfl)) (by kernel_rfl) (by kernel_rfl) (by kernel_rfl) ?_
    have hxb := x1.toNat_lt
    have hsz : (szAt (bs.drop p)) = 21 + x1.toNat := by unfold szAt; rw [List.getElem?_drop, hx1]; rfl
    have hdl : (bs.drop p).length = m - p := by rw [List.length_drop, hm]
    have hSX : Src W D qb (qo + p * 1) (bs.drop p) := (hS.sub p (m - p)).re (by omega) (by rw [List.take_of_length_le (by omega)])
    refine lRunS 1 [] [(24, .int .i64 (IntKind.i64.wrap ((x1.toNat : Nat) : Int)))] [] (by kernel_rfl) (lOv 24 (iw (x := ((x1.toNat : Nat) : Int)) (by omega)) (by kernel_rfl) (lRunS 1 [] [(25, .int .i64 (IntKind.i64.wrap (21 + ((x1.toNat : Nat) : Int))))] [] (by kernel_rfl) (lOv (v := .int .i64 (((szAt (bs.drop p)) : Nat) : Int)) (v0 := .int .i64 (IntKind.i64.wrap (21 + ((x1.toNat : Nat) : Int)))) 25 (congrArg (Value.int .i64) ((wrap_i64 (by omega)).trans (by omega))) (by kernel_rfl) (lRunS 1 [] [(7, .int .i64 (((szAt (bs.drop p)) : Nat) : Int))] [] (by kernel_rfl) (lEnd ?_)))))
    refine sSeq (sSeq (rQuiet (by kernel_rfl) (by kernel_rfl) (qRun 4 [] [(29, .int .i64 (IntKind.i64.wrap ((((szAt (bs.drop p)) : Nat) : Int) + 4))), (28, .int .i64 (((szAt (bs.drop p)) : Nat) : Int)), (27, .int .i64 ((m - p : Nat) : Int)), (26, .slice (some ⟨qb, qo + p * 1, none⟩) (m - p) (c - p))] [] (by kernel_rfl) (qOv (v := .int .i64 (((szAt (bs.drop p)) + 4 : Nat) : Int)) (v0 := .int .i64 (IntKind.i64.wrap ((((szAt (bs.drop p)) : Nat) : Int) + 4))) 29 (congrArg (Value.int .i64) ((wrap_i64 (by omega)).trans (by omega))) (by kernel_rfl) (qRun 2 [] [(31, .bool (decide (((m - p : Nat) : Int) < (((szAt (bs.drop p)) + 4 : Nat) : Int)))), (30, .bool (decide (((m - p : Nat) : Int) < (((szAt (bs.drop p)) + 4 : Nat) : Int))))] [] (by kernel_rfl) ?_)))))
    rcases Classical.em (((m - p : Nat) : Int) < (((szAt (bs.drop p)) + 4 : Nat) : Int)) with hlt | hlt
    · refine qOv (v := .bool true) (v0 := .bool (decide (((m - p : Nat) : Int) < (((szAt (bs.drop p)) + 4 : Nat) : Int)))) 31 (ovT (bpD (((m - p : Nat) : Int) < (((szAt (bs.drop p)) + 4 : Nat) : Int))) hlt) (by kernel_rfl) ?_
      have hno : ¬ okAt (bs.drop p) := fun h => by have := h.2.1; omega
      refine qRun 9 [] [(40, .bool true), (39, undef), (38, undef), (37, undef), (36, undef), (35, undef), (34, undef), (33, undef), (32, undef)] [] (by kernel_rfl) (qEnd (sIfT (by kernel_rfl) (sExit (by kernel_rfl) (sSeq (rRunS [] [(3, .int .i64 (p : Int)), (2, .pointer (some ⟨rb, 0, none⟩)), (73, .int .i64 (p : Int)), (72, .pointer (some ⟨rb, 0, none⟩))] [] (by kernel_rfl) ?_)))))
      refine sRet ?_
      have hfin : recM bs = (s, p) := hF.symm.trans (recF_no hno)
      have hs1 : s = (recM bs).1 := by rw [hfin]
      have hp1 : p = (recM bs).2 := by rw [hfin]
      refine wfRe (its' := [[(rb, .cells #[.slice da.a (((recM bs).1).acc.length) da.cap, .slice dc.a (((recM bs).1).cli.length) dc.cap, .slice dj.a (((recM bs).1).jr.length) dj.cap, .int .i64 ((((recM bs).1).cnt : Nat) : Int)] 86)], SD.blk 94 encAcc da (((recM bs).1).acc), SD.blk 92 encCli dc (((recM bs).1).cli), SD.blk 5 encByte dj (((recM bs).1).jr), D, F]) (by rw [← hs1] <;> rfl) ?_
      exact wRet (rb, da, dc, dj) (0, 0) [] (.tuple #[.pointer (some ⟨rb, 0, none⟩), .int .i64 (p : Int)]) [.tmp 2, .tmp 3] rfl (by kernel_rfl) (by rw [← hp1]) (by rw [← hs1]; exact ⟨hda, hdc, hdj⟩) (fun _ h => h)
    · refine qOv (v := .bool false) (v0 := .bool (decide (((m - p : Nat) : Int) < (((szAt (bs.drop p)) + 4 : Nat) : Int)))) 31 (ovF (bpD (((m - p : Nat) : Int) < (((szAt (bs.drop p)) + 4 : Nat) : Int))) hlt) (by kernel_rfl) (qRun 2 [] [(33, .int .i64 (((szAt (bs.drop p)) : Nat) : Int)), (32, .slice (some ⟨qb, qo + p * 1, none⟩) (m - p) (c - p))] [] (by kernel_rfl) ?_)
      refine qCallR [4] [1, 2, 3, 4, 0, 5] (c_readS W base (qb := qb) (qo := qo + p * 1) (xs := (bs.drop p)) (m - p) (c - p) (szAt (bs.drop p)) 4 hSX hdl (by omega) (by omega) (by omega)) (by kernel_rfl) (by kernel_rfl) (by kernel_rfl) (by kernel_rfl) (by kernel_rfl) (qRun 2 [] [(36, .int .i64 (((szAt (bs.drop p)) : Nat) : Int)), (35, .slice (some ⟨qb, qo + p * 1, none⟩) (m - p) (c - p))] [] (by kernel_rfl) (qR (u := .slice (some ⟨qb, qo + p * 1, none⟩) (szAt (bs.drop p)) (c - p)) (runSliceHi (T := 40) (E := 5) (n := (m - p)) (c := (c - p)) (a := (some ⟨qb, qo + p * 1, none⟩)) (ik := .i64) (szAt (bs.drop p)) (by kernel_rfl) (by kernel_rfl) (by omega)) (by kernel_rfl) (by kernel_rfl) (by kernel_rfl) ?_))
      refine qCallR [4] [1, 2, 3, 4, 0, 5] (c_sumS35 W base (qb := qb) (qo := qo + p * 1) (xs := (bs.drop p).take (szAt (bs.drop p))) (szAt (bs.drop p)) (c - p) ((hS.sub p (szAt (bs.drop p))).re (by omega) rfl) (by simp only [List.length_take, List.length_drop]; omega) (by omega)) (by kernel_rfl) (by kernel_rfl) (by kernel_rfl) (by kernel_rfl) (by kernel_rfl) (qRun 2 [] [(40, .bool (!(decide (((valN (((bs.drop p).drop (szAt (bs.drop p))).take 4) : Nat) : Int) = ((sumB ((bs.drop p).take (szAt (bs.drop p))) : Nat) : Int))))), (39, .bool (!(decide (((valN (((bs.drop p).drop (szAt (bs.drop p))).take 4) : Nat) : Int) = ((sumB ((bs.drop p).take (szAt (bs.drop p))) : Nat) : Int)))))] [] (by kernel_rfl) (qEnd ?_))
      refine sIfPn (bpD (((valN (((bs.drop p).drop (szAt (bs.drop p))).take 4) : Nat) : Int) = ((sumB ((bs.drop p).take (szAt (bs.drop p))) : Nat) : Int))) (by kernel_rfl) (fun h2 => ?_) (fun h2 => ?_)
      · have hno : ¬ okAt (bs.drop p) := fun h => by have := h.2.2; omega
        refine sExit (by kernel_rfl) (sSeq (rRunS [] [(3, .int .i64 (p : Int)), (2, .pointer (some ⟨rb, 0, none⟩)), (73, .int .i64 (p : Int)), (72, .pointer (some ⟨rb, 0, none⟩))] [] (by kernel_rfl) (sRet ?_)))
        have hfin : recM bs = (s, p) := hF.symm.trans (recF_no hno)
        have hs1 : s = (recM bs).1 := by rw [hfin]
        have hp1 : p = (recM bs).2 := by rw [hfin]
        refine wfRe (its' := [[(rb, .cells #[.slice da.a (((recM bs).1).acc.length) da.cap, .slice dc.a (((recM bs).1).cli.length) dc.cap, .slice dj.a (((recM bs).1).jr.length) dj.cap, .int .i64 ((((recM bs).1).cnt : Nat) : Int)] 86)], SD.blk 94 encAcc da (((recM bs).1).acc), SD.blk 92 encCli dc (((recM bs).1).cli), SD.blk 5 encByte dj (((recM bs).1).jr), D, F]) (by rw [← hs1] <;> rfl) ?_
        exact wRet (rb, da, dc, dj) (0, 0) [] (.tuple #[.pointer (some ⟨rb, 0, none⟩), .int .i64 (p : Int)]) [.tmp 2, .tmp 3] rfl (by kernel_rfl) (by rw [← hp1]) (by rw [← hs1]; exact ⟨hda, hdc, hdj⟩) (fun _ h => h)
      · have hok : okAt (bs.drop p) := ⟨by omega, by omega, by omega⟩
        refine sSkip (sSeq ?_)
        refine rHeld (by kernel_rfl) (by kernel_rfl) [[(rb, .cells #[.slice da.a s.acc.length da.cap, .slice dc.a s.cli.length dc.cap, .slice dj.a s.jr.length dj.cap, .int .i64 ((s.cnt : Nat) : Int)] 86)], SD.blk 94 encAcc da s.acc, SD.blk 92 encCli dc s.cli, SD.blk 5 encByte dj s.jr, D, F] ?_
        refine hTakes [0, 3, 6, 7] [] [0, 1, 2, 3, 4, 5] [(48, .int .i64 (((szAt (bs.drop p)) : Nat) : Int)), (47, .slice (some ⟨qb, qo + p * 1, none⟩) (m - p) (c - p)), (44, .slice (some ⟨qb, qo + p * 1, none⟩) (m - p) (c - p)), (41, .slice (some ⟨qb, qo + p * 1, none⟩) (m - p) (c - p))] [] (by kernel_rfl) (by kernel_rfl) (by kernel_rfl) (by kernel_rfl) (hR (u := .slice (some ⟨qb, qo + p * 1 + 21 * 1, none⟩) ((szAt (bs.drop p)) - 21) (c - p - 21)) 8 [0, 1, 2, 3, 4, 5] (runSliceLH (T := 40) (E := 5) (n := m - p) (c := c - p) (b := qb) (o := qo + p * 1) (k := 1) (ik := .i64) (ik2 := .i64) 21 (szAt (bs.drop p)) (by kernel_rfl) (by kernel_rfl) (by omega) (by omega) (by omega)) (by kernel_rfl) (by kernel_rfl) (by kernel_rfl) (by kernel_rfl) (by kernel_rfl) (by kernel_rfl) (by kernel_rfl) rfl (hR (u := .string ((reqAt (bs.drop p)).key)) 9 [0, 1, 2, 3, 4, 5] (runStrSrc (src := 40) (dst := 9) (e := 5) (m := (szAt (bs.drop p)) - 21) (c := c - p - 21) (xs := ((bs.drop p).drop 21).take ((szAt (bs.drop p)) - 21)) ((hS.sub (p + 21) ((szAt (bs.drop p)) - 21)).re (o' := qo + p * 1 + 21 * 1) (by omega) (by rw [List.drop_drop])) 4 (by kernel_rfl) (by simp only [List.length_take, List.length_drop]; omega) (by kernel_rfl) (by kernel_rfl) (by kernel_rfl)) (by kernel_rfl) (by kernel_rfl) (by kernel_rfl) (by kernel_rfl) (by kernel_rfl) (by kernel_rfl) (by kernel_rfl) rfl (hTakes [10] [] [0, 1, 2, 3, 4, 5] [(51, .slice (some ⟨qb, qo + p * 1, none⟩) (m - p) (c - p))] [] (by kernel_rfl) (by kernel_rfl) (by kernel_rfl) (by kernel_rfl) ?_)))
        refine hAll2 1 14 (by kernel_rfl) ?_ ?_
        · refine hOp 1 [0, 1, 2, 3, 4, 5] (OS.call (by kernel_rfl) (CP.ct (c_readS W base (qb := qb) (qo := qo + p * 1) (xs := (bs.drop p)) (m - p) (c - p) 0 4 hSX hdl (by omega) (by omega) (by omega)) [4] [1, 2, 3, 4, 0, 5] (by kernel_rfl) (by kernel_rfl) (by kernel_rfl) (by kernel_rfl))) (by kernel_rfl) (by kernel_rfl) (fun _ => by kernel_rfl) ?_
          rintro ⟨⟩ -
          refine hTakes [2] [] [0, 1, 2, 3, 4, 5] [(43, .int .i64 (IntKind.i64.wrap ((valN (((bs.drop p).drop 0).take 4) : Nat) : Int)))] [] (by kernel_rfl) (by kernel_rfl) (by kernel_rfl) (by kernel_rfl) ?_
          refine hAll2 4 14 (by kernel_rfl) ?_ ?_
          · refine hOp 4 [0, 1, 2, 3, 4, 5] (OS.call (by kernel_rfl) (CP.ct (c_readS W base (qb := qb) (qo := qo + p * 1) (xs := (bs.drop p)) (m - p) (c - p) 4 8 hSX hdl (by omega) (by omega) (by omega)) [4] [1, 2, 3, 4, 0, 5] (by kernel_rfl) (by kernel_rfl) (by kernel_rfl) (by kernel_rfl))) (by kernel_rfl) (by kernel_rfl) (fun _ => by kernel_rfl) ?_
            rintro ⟨⟩ -
            refine hTakes [5] [] [0, 1, 2, 3, 4, 5] [(46, .int .i64 (IntKind.i64.wrap ((valN (((bs.drop p).drop 4).take 8) : Nat) : Int)))] [] (by kernel_rfl) (by kernel_rfl) (by kernel_rfl) (by kernel_rfl) ?_
            refine hAll2 11 14 (by kernel_rfl) ?_ ?_
            · refine hOp 11 [0, 1, 2, 3, 4, 5] (OS.call (by kernel_rfl) (CP.ct (c_readS W base (qb := qb) (qo := qo + p * 1) (xs := (bs.drop p)) (m - p) (c - p) 12 8 hSX hdl (by omega) (by omega) (by omega)) [4] [1, 2, 3, 4, 0, 5] (by kernel_rfl) (by kernel_rfl) (by kernel_rfl) (by kernel_rfl))) (by kernel_rfl) (by kernel_rfl) (fun _ => by kernel_rfl) ?_
              rintro ⟨⟩ -
              refine hTakes [12, 13] [] [0, 1, 2, 3, 4, 5] [(54, .agg #[.int .i64 (IntKind.i64.wrap ((valN (((bs.drop p).drop 0).take 4) : Nat) : Int)), .int .i64 (IntKind.i64.wrap ((valN (((bs.drop p).drop 4).take 8) : Nat) : Int)), .string ((reqAt (bs.drop p)).key), .int .i64 (IntKind.i64.wrap ((valN (((bs.drop p).drop 12).take 8) : Nat) : Int))]), (53, .int .i64 (IntKind.i64.wrap ((valN (((bs.drop p).drop 12).take 8) : Nat) : Int)))] [] (by kernel_rfl) (by kernel_rfl) (by kernel_rfl) (by kernel_rfl) (hOv (v := .agg #[.int .i64 ((reqAt (bs.drop p)).client), .int .i64 ((reqAt (bs.drop p)).seq), .string ((reqAt (bs.drop p)).key), .int .i64 ((reqAt (bs.drop p)).amount)]) (v0 := .agg #[.int .i64 (IntKind.i64.wrap ((valN (((bs.drop p).drop 0).take 4) : Nat) : Int)), .int .i64 (IntKind.i64.wrap ((valN (((bs.drop p).drop 4).take 8) : Nat) : Int)), .string ((reqAt (bs.drop p)).key), .int .i64 (IntKind.i64.wrap ((valN (((bs.drop p).drop 12).take 8) : Nat) : Int))]) 54 rfl (by kernel_rfl) ?_)
              refine hOS 14 [0, 1, 2, 3, 4, 5] (OS.run1 (0, 0) (fun b2 => .pointer (some ⟨b2, 0, none⟩)) (fun b2 => [[(rb, .cells #[.slice da.a s.acc.length da.cap, .slice dc.a s.cli.length dc.cap, .slice dj.a s.jr.length dj.cap, .int .i64 ((s.cnt : Nat) : Int)] 86)], SD.blk 94 encAcc da s.acc, SD.blk 92 encCli dc s.cli, SD.blk 5 encByte dj s.jr, D, F, [(b2, .cells #[.int .i64 0, .int .i64 0, .string (⟨#[]⟩ : ByteArray), .int .i64 0] 35)]]) (fun b2 => []) (by kernel_rfl) (fun b2 => by kernel_rfl)) (by kernel_rfl) (by kernel_rfl) (by kernel_rfl) (fun _ => by kernel_rfl) ?_
              rintro b2 -
              refine hOS 15 [0, 1, 2, 3, 4, 5] (OS.run (7, 0) undef [[(rb, .cells #[.slice da.a s.acc.length da.cap, .slice dc.a s.cli.length dc.cap, .slice dj.a s.jr.length dj.cap, .int .i64 ((s.cnt : Nat) : Int)] 86)], SD.blk 94 encAcc da s.acc, SD.blk 92 encCli dc s.cli, SD.blk 5 encByte dj s.jr, D, F, [(b2, .cells #[.int .i64 ((reqAt (bs.drop p)).client), .int .i64 ((reqAt (bs.drop p)).seq), .string ((reqAt (bs.drop p)).key), .int .i64 ((reqAt (bs.drop p)).amount)] 35)]] [b2, b2, b2, b2] (by kernel_rfl) (by kernel_rfl)) (by kernel_rfl) (by kernel_rfl) (by kernel_rfl) (fun _ => by kernel_rfl) ?_
              rintro ⟨⟩ -
              refine hEnd (by kernel_rfl) (sSeq (sReg (lRunS 2 [(1, 7, 0)] [(57, .agg #[.int .i64 ((reqAt (bs.drop p)).client), .int .i64 ((reqAt (bs.drop p)).seq), .string ((reqAt (bs.drop p)).key), .int .i64 ((reqAt (bs.drop p)).amount)]), (56, .pointer (some ⟨rb, 0, none⟩))] [b2, b2, b2, b2] (by kernel_rfl) ?_)))
              refine lCallP [0, 1, 2, 3] (c_rdo W base rb da dc dj s (reqAt (bs.drop p)) (reqAt_seq _) hs hda hdc hdj) (by kernel_rfl) (by kernel_rfl) (by kernel_rfl) ?_
              rintro ⟨da2, dc2, dj2⟩ ⟨hda2, hdc2, hdj2⟩
              refine lOv (v := .tuple #[.int .i64 (doV s (reqAt (bs.drop p))), .bool (doB s (reqAt (bs.drop p))), .int .i64 (doE s (reqAt (bs.drop p)))]) (v0 := resV s (reqAt (bs.drop p))) 58 rfl (by kernel_rfl) (lRunS 7 [] [(11, .int .i64 (doE s (reqAt (bs.drop p)))), (10, .bool (doB s (reqAt (bs.drop p)))), (9, .int .i64 (doV s (reqAt (bs.drop p)))), (61, .int .i64 (doE s (reqAt (bs.drop p)))), (60, .bool (doB s (reqAt (bs.drop p)))), (59, .int .i64 (doV s (reqAt (bs.drop p)))), (55, .tuple #[.int .i64 (doV s (reqAt (bs.drop p))), .bool (doB s (reqAt (bs.drop p))), .int .i64 (doE s (reqAt (bs.drop p)))])] [] (by kernel_rfl) (lEnd (sSeq (sSeq (sReg ?_)))))
              refine lRunS 3 [] [(64, .bool (!(decide ((doE s (reqAt (bs.drop p))) = (0 : Int))))), (63, .bool (!(decide ((doE s (reqAt (bs.drop p))) = (0 : Int))))), (62, .int .i64 (doE s (reqAt (bs.drop p))))] [] (by kernel_rfl) ?_
              rcases Classical.em (doE s (reqAt (bs.drop p)) = 0) with he1 | he1
              · refine lOv (v := .bool false) (v0 := .bool (!(decide ((doE s (reqAt (bs.drop p))) = (0 : Int))))) 64 (congrArg Value.bool (by simp [he1])) (by kernel_rfl) (lRunS 2 [] [(66, .bool (!(doB s (reqAt (bs.drop p))))), (65, .bool (doB s (reqAt (bs.drop p))))] [] (by kernel_rfl) ?_)
                rcases Classical.em (doB s (reqAt (bs.drop p)) = true) with hb1 | hb1
                · refine lOv (v := .bool false) (v0 := .bool (!(doB s (reqAt (bs.drop p))))) 66 (congrArg Value.bool (by simp [hb1])) (by kernel_rfl) (lRunS 1 [] [(67, .bool false)] [] (by kernel_rfl) (lEnd (sIfF (by kernel_rfl) (sSkip (sReg ?_)))))
                  refine lRunS 3 [] [(70, .int .i64 (IntKind.i64.wrap ((p : Int) + (((szAt (bs.drop p)) : Nat) : Int)))), (69, .int .i64 (((szAt (bs.drop p)) : Nat) : Int)), (68, .int .i64 (p : Int))] [] (by kernel_rfl) (lOv 70 (iw (x := (p : Int) + (((szAt (bs.drop p)) : Nat) : Int)) (by omega)) (by kernel_rfl) (lRunS 1 [] [(71, .int .i64 (IntKind.i64.wrap (((p : Int) + (((szAt (bs.drop p)) : Nat) : Int)) + 4)))] [] (by kernel_rfl) (lOv (v := .int .i64 ((p + ((szAt (bs.drop p)) + 4) : Nat) : Int)) (v0 := .int .i64 (IntKind.i64.wrap (((p : Int) + (((szAt (bs.drop p)) : Nat) : Int)) + 4))) 71 (congrArg (Value.int .i64) ((wrap_i64 (by omega)).trans (by omega))) (by kernel_rfl) (lRunS 1 [] [(5, .int .i64 ((p + ((szAt (bs.drop p)) + 4) : Nat) : Int))] [] (by kernel_rfl) (lEnd ?_)))))
                  refine sEnd ?_
                  exact sPick [0, 1, 2, 3, 4, 5] (by kernel_rfl) (by kernel_rfl) (sAgain (p + ((szAt (bs.drop p)) + 4), f - 1, doS s (reqAt (bs.drop p)), da2, dc2, dj2) ⟨by omega, by omega, by rw [← hF, recF_yes hok (doE_B.1 ⟨he1, hb1⟩) (by omega)], doS_ok hs _, hda2, hdc2, hdj2⟩ (by first | omega | (simp only []; omega)) (by kernel_rfl) rfl)
                · refine lOv (v := .bool true) (v0 := .bool (!(doB s (reqAt (bs.drop p))))) 66 (congrArg Value.bool (by simp [hb1])) (by kernel_rfl) ?_
                  have hk : doK s (reqAt (bs.drop p)) ≠ 6 := fun h => hb1 (doE_B.2 h).2
                  refine lRunS 1 [] [(67, .bool true)] [] (by kernel_rfl) (lEnd (sIfT (by kernel_rfl) (sExit (by kernel_rfl) (sSeq (rRunS [] [(3, .int .i64 (p : Int)), (2, .pointer (some ⟨rb, 0, none⟩)), (73, .int .i64 (p : Int)), (72, .pointer (some ⟨rb, 0, none⟩))] [] (by kernel_rfl) ?_)))))
                  refine sRet ?_
                  have hfin : recM bs = (s, p) := hF.symm.trans (recF_stop hk)
                  have hS2 : doS s (reqAt (bs.drop p)) = s := by unfold doS; rw [if_neg hk]
                  have hs1 : doS s (reqAt (bs.drop p)) = (recM bs).1 := by rw [hS2, hfin]
                  have hp1 : p = (recM bs).2 := by rw [hfin]
                  refine wfRe (its' := [[(rb, .cells #[.slice da2.a (((recM bs).1).acc.length) da2.cap, .slice dc2.a (((recM bs).1).cli.length) dc2.cap, .slice dj2.a (((recM bs).1).jr.length) dj2.cap, .int .i64 ((((recM bs).1).cnt : Nat) : Int)] 86)], SD.blk 94 encAcc da2 (((recM bs).1).acc), SD.blk 92 encCli dc2 (((recM bs).1).cli), SD.blk 5 encByte dj2 (((recM bs).1).jr), D, F, [(b2, .cells #[.int .i64 ((reqAt (bs.drop p)).client), .int .i64 ((reqAt (bs.drop p)).seq), .string ((reqAt (bs.drop p)).key), .int .i64 ((reqAt (bs.drop p)).amount)] 35)]]) (by rw [← hs1] <;> rfl) ?_
                  exact wRet (rb, da2, dc2, dj2) (0, 0) [] (.tuple #[.pointer (some ⟨rb, 0, none⟩), .int .i64 (p : Int)]) [.tmp 2, .tmp 3] rfl (by kernel_rfl) (by rw [← hp1]) (by rw [← hs1]; exact ⟨hda2, hdc2, hdj2⟩) (fun _ h => h.pick [0, 1, 2, 3, 4, 5] (by kernel_rfl) (by kernel_rfl))
              · refine lOv (v := .bool true) (v0 := .bool (!(decide ((doE s (reqAt (bs.drop p))) = (0 : Int))))) 64 (congrArg Value.bool (by simp [he1])) (by kernel_rfl) ?_
                have hk : doK s (reqAt (bs.drop p)) ≠ 6 := fun h => he1 (doE_B.2 h).1
                refine lRunS 3 [] [(67, .bool true), (66, undef), (65, undef)] [] (by kernel_rfl) (lEnd (sIfT (by kernel_rfl) (sExit (by kernel_rfl) (sSeq (rRunS [] [(3, .int .i64 (p : Int)), (2, .pointer (some ⟨rb, 0, none⟩)), (73, .int .i64 (p : Int)), (72, .pointer (some ⟨rb, 0, none⟩))] [] (by kernel_rfl) ?_)))))
                refine sRet ?_
                have hfin : recM bs = (s, p) := hF.symm.trans (recF_stop hk)
                have hS2 : doS s (reqAt (bs.drop p)) = s := by unfold doS; rw [if_neg hk]
                have hs1 : doS s (reqAt (bs.drop p)) = (recM bs).1 := by rw [hS2, hfin]
                have hp1 : p = (recM bs).2 := by rw [hfin]
                refine wfRe (its' := [[(rb, .cells #[.slice da2.a (((recM bs).1).acc.length) da2.cap, .slice dc2.a (((recM bs).1).cli.length) dc2.cap, .slice dj2.a (((recM bs).1).jr.length) dj2.cap, .int .i64 ((((recM bs).1).cnt : Nat) : Int)] 86)], SD.blk 94 encAcc da2 (((recM bs).1).acc), SD.blk 92 encCli dc2 (((recM bs).1).cli), SD.blk 5 encByte dj2 (((recM bs).1).jr), D, F, [(b2, .cells #[.int .i64 ((reqAt (bs.drop p)).client), .int .i64 ((reqAt (bs.drop p)).seq), .string ((reqAt (bs.drop p)).key), .int .i64 ((reqAt (bs.drop p)).amount)] 35)]]) (by rw [← hs1] <;> rfl) ?_
                exact wRet (rb, da2, dc2, dj2) (0, 0) [] (.tuple #[.pointer (some ⟨rb, 0, none⟩), .int .i64 (p : Int)]) [.tmp 2, .tmp 3] rfl (by kernel_rfl) (by rw [← hp1]) (by rw [← hs1]; exact ⟨hda2, hdc2, hdj2⟩) (fun _ h => h.pick [0, 1, 2, 3, 4, 5] (by kernel_rfl) (by kernel_rfl))
            · refine hOp 14 [0, 1, 2, 3, 4, 5] (OS.run1 (0, 0) (fun b3 => .pointer (some ⟨b3, 0, none⟩)) (fun b3 => [[(rb, .cells #[.slice da.a s.acc.length da.cap, .slice dc.a s.cli.length dc.cap, .slice dj.a s.jr.length dj.cap, .int .i64 ((s.cnt : Nat) : Int)] 86)], SD.blk 94 encAcc da s.acc, SD.blk 92 encCli dc s.cli, SD.blk 5 encByte dj s.jr, D, F, [(b3, .cells #[.int .i64 0, .int .i64 0, .string (⟨#[]⟩ : ByteArray), .int .i64 0] 35)]]) (fun b3 => []) (by kernel_rfl) (fun b3 => by kernel_rfl)) (by kernel_rfl) (by kernel_rfl) (fun _ => by kernel_rfl) ?_
              rintro b3 -
              refine hOS 11 [0, 1, 2, 3, 4, 5] (OS.call (by kernel_rfl) (CP.ct (c_readS W base (qb := qb) (qo := qo + p * 1) (xs := (bs.drop p)) (m - p) (c - p) 12 8 hSX hdl (by omega) (by omega) (by omega)) [4] [1, 2, 3, 4, 0, 5, 6] (by kernel_rfl) (by kernel_rfl) (by kernel_rfl) (by kernel_rfl))) (by kernel_rfl) (by kernel_rfl) (by kernel_rfl) (fun _ => by kernel_rfl) ?_
              rintro ⟨⟩ -
              refine hTakes [12, 13] [] [0, 1, 2, 3, 4, 5] [(54, .agg #[.int .i64 (IntKind.i64.wrap ((valN (((bs.drop p).drop 0).take 4) : Nat) : Int)), .int .i64 (IntKind.i64.wrap ((valN (((bs.drop p).drop 4).take 8) : Nat) : Int)), .string ((reqAt (bs.drop p)).key), .int .i64 (IntKind.i64.wrap ((valN (((bs.drop p).drop 12).take 8) : Nat) : Int))]), (53, .int .i64 (IntKind.i64.wrap ((valN (((bs.drop p).drop 12).take 8) : Nat) : Int)))] [] (by kernel_rfl) (by kernel_rfl) (by kernel_rfl) (by kernel_rfl) (hOv (v := .agg #[.int .i64 ((reqAt (bs.drop p)).client), .int .i64 ((reqAt (bs.drop p)).seq), .string ((reqAt (bs.drop p)).key), .int .i64 ((reqAt (bs.drop p)).amount)]) (v0 := .agg #[.int .i64 (IntKind.i64.wrap ((valN (((bs.drop p).drop 0).take 4) : Nat) : Int)), .int .i64 (IntKind.i64.wrap ((valN (((bs.drop p).drop 4).take 8) : Nat) : Int)), .string ((reqAt (bs.drop p)).key), .int .i64 (IntKind.i64.wrap ((valN (((bs.drop p).drop 12).take 8) : Nat) : Int))]) 54 rfl (by kernel_rfl) ?_)
              refine hOS 15 [0, 1, 2, 3, 4, 5] (OS.run (7, 0) undef [[(rb, .cells #[.slice da.a s.acc.length da.cap, .slice dc.a s.cli.length dc.cap, .slice dj.a s.jr.length dj.cap, .int .i64 ((s.cnt : Nat) : Int)] 86)], SD.blk 94 encAcc da s.acc, SD.blk 92 encCli dc s.cli, SD.blk 5 encByte dj s.jr, D, F, [(b3, .cells #[.int .i64 ((reqAt (bs.drop p)).client), .int .i64 ((reqAt (bs.drop p)).seq), .string ((reqAt (bs.drop p)).key), .int .i64 ((reqAt (bs.drop p)).amount)] 35)]] [b3, b3, b3, b3] (by kernel_rfl) (by kernel_rfl)) (by kernel_rfl) (by kernel_rfl) (by kernel_rfl) (fun _ => by kernel_rfl) ?_
              rintro ⟨⟩ -
              refine hEnd (by kernel_rfl) (sSeq (sReg (lRunS 2 [(1, 7, 0)] [(57, .agg #[.int .i64 ((reqAt (bs.drop p)).client), .int .i64 ((reqAt (bs.drop p)).seq), .string ((reqAt (bs.drop p)).key), .int .i64 ((reqAt (bs.drop p)).amount)]), (56, .pointer (some ⟨rb, 0, none⟩))] [b3, b3, b3, b3] (by kernel_rfl) ?_)))
              refine lCallP [0, 1, 2, 3] (c_rdo W base rb da dc dj s (reqAt (bs.drop p)) (reqAt_seq _) hs hda hdc hdj) (by kernel_rfl) (by kernel_rfl) (by kernel_rfl) ?_
              rintro ⟨da2, dc2, dj2⟩ ⟨hda2, hdc2, hdj2⟩
              refine lOv (v := .tuple #[.int .i64 (doV s (reqAt (bs.drop p))), .bool (doB s (reqAt (bs.drop p))), .int .i64 (doE s (reqAt (bs.drop p)))]) (v0 := resV s (reqAt (bs.drop p))) 58 rfl (by kernel_rfl) (lRunS 7 [] [(11, .int .i64 (doE s (reqAt (bs.drop p)))), (10, .bool (doB s (reqAt (bs.drop p)))), (9, .int .i64 (doV s (reqAt (bs.drop p)))), (61, .int .i64 (doE s (reqAt (bs.drop p)))), (60, .bool (doB s (reqAt (bs.drop p)))), (59, .int .i64 (doV s (reqAt (bs.drop p)))), (55, .tuple #[.int .i64 (doV s (reqAt (bs.drop p))), .bool (doB s (reqAt (bs.drop p))), .int .i64 (doE s (reqAt (bs.drop p)))])] [] (by kernel_rfl) (lEnd (sSeq (sSeq (sReg ?_)))))
              refine lRunS 3 [] [(64, .bool (!(decide ((doE s (reqAt (bs.drop p))) = (0 : Int))))), (63, .bool (!(decide ((doE s (reqAt (bs.drop p))) = (0 : Int))))), (62, .int .i64 (doE s (reqAt (bs.drop p))))] [] (by kernel_rfl) ?_
              rcases Classical.em (doE s (reqAt (bs.drop p)) = 0) with he1 | he1
              · refine lOv (v := .bool false) (v0 := .bool (!(decide ((doE s (reqAt (bs.drop p))) = (0 : Int))))) 64 (congrArg Value.bool (by simp [he1])) (by kernel_rfl) (lRunS 2 [] [(66, .bool (!(doB s (reqAt (bs.drop p))))), (65, .bool (doB s (reqAt (bs.drop p))))] [] (by kernel_rfl) ?_)
                rcases Classical.em (doB s (reqAt (bs.drop p)) = true) with hb1 | hb1
                · refine lOv (v := .bool false) (v0 := .bool (!(doB s (reqAt (bs.drop p))))) 66 (congrArg Value.bool (by simp [hb1])) (by kernel_rfl) (lRunS 1 [] [(67, .bool false)] [] (by kernel_rfl) (lEnd (sIfF (by kernel_rfl) (sSkip (sReg ?_)))))
                  refine lRunS 3 [] [(70, .int .i64 (IntKind.i64.wrap ((p : Int) + (((szAt (bs.drop p)) : Nat) : Int)))), (69, .int .i64 (((szAt (bs.drop p)) : Nat) : Int)), (68, .int .i64 (p : Int))] [] (by kernel_rfl) (lOv 70 (iw (x := (p : Int) + (((szAt (bs.drop p)) : Nat) : Int)) (by omega)) (by kernel_rfl) (lRunS 1 [] [(71, .int .i64 (IntKind.i64.wrap (((p : Int) + (((szAt (bs.drop p)) : Nat) : Int)) + 4)))] [] (by kernel_rfl) (lOv (v := .int .i64 ((p + ((szAt (bs.drop p)) + 4) : Nat) : Int)) (v0 := .int .i64 (IntKind.i64.wrap (((p : Int) + (((szAt (bs.drop p)) : Nat) : Int)) + 4))) 71 (congrArg (Value.int .i64) ((wrap_i64 (by omega)).trans (by omega))) (by kernel_rfl) (lRunS 1 [] [(5, .int .i64 ((p + ((szAt (bs.drop p)) + 4) : Nat) : Int))] [] (by kernel_rfl) (lEnd ?_)))))
                  refine sEnd ?_
                  exact sPick [0, 1, 2, 3, 4, 5] (by kernel_rfl) (by kernel_rfl) (sAgain (p + ((szAt (bs.drop p)) + 4), f - 1, doS s (reqAt (bs.drop p)), da2, dc2, dj2) ⟨by omega, by omega, by rw [← hF, recF_yes hok (doE_B.1 ⟨he1, hb1⟩) (by omega)], doS_ok hs _, hda2, hdc2, hdj2⟩ (by first | omega | (simp only []; omega)) (by kernel_rfl) rfl)
                · refine lOv (v := .bool true) (v0 := .bool (!(doB s (reqAt (bs.drop p))))) 66 (congrArg Value.bool (by simp [hb1])) (by kernel_rfl) ?_
                  have hk : doK s (reqAt (bs.drop p)) ≠ 6 := fun h => hb1 (doE_B.2 h).2
                  refine lRunS 1 [] [(67, .bool true)] [] (by kernel_rfl) (lEnd (sIfT (by kernel_rfl) (sExit (by kernel_rfl) (sSeq (rRunS [] [(3, .int .i64 (p : Int)), (2, .pointer (some ⟨rb, 0, none⟩)), (73, .int .i64 (p : Int)), (72, .pointer (some ⟨rb, 0, none⟩))] [] (by kernel_rfl) ?_)))))
                  refine sRet ?_
                  have hfin : recM bs = (s, p) := hF.symm.trans (recF_stop hk)
                  have hS2 : doS s (reqAt (bs.drop p)) = s := by unfold doS; rw [if_neg hk]
                  have hs1 : doS s (reqAt (bs.drop p)) = (recM bs).1 := by rw [hS2, hfin]
                  have hp1 : p = (recM bs).2 := by rw [hfin]
                  refine wfRe (its' := [[(rb, .cells #[.slice da2.a (((recM bs).1).acc.length) da2.cap, .slice dc2.a (((recM bs).1).cli.length) dc2.cap, .slice dj2.a (((recM bs).1).jr.length) dj2.cap, .int .i64 ((((recM bs).1).cnt : Nat) : Int)] 86)], SD.blk 94 encAcc da2 (((recM bs).1).acc), SD.blk 92 encCli dc2 (((recM bs).1).cli), SD.blk 5 encByte dj2 (((recM bs).1).jr), D, F, [(b3, .cells #[.int .i64 ((reqAt (bs.drop p)).client), .int .i64 ((reqAt (bs.drop p)).seq), .string ((reqAt (bs.drop p)).key), .int .i64 ((reqAt (bs.drop p)).amount)] 35)]]) (by rw [← hs1] <;> rfl) ?_
                  exact wRet (rb, da2, dc2, dj2) (0, 0) [] (.tuple #[.pointer (some ⟨rb, 0, none⟩), .int .i64 (p : Int)]) [.tmp 2, .tmp 3] rfl (by kernel_rfl) (by rw [← hp1]) (by rw [← hs1]; exact ⟨hda2, hdc2, hdj2⟩) (fun _ h => h.pick [0, 1, 2, 3, 4, 5] (by kernel_rfl) (by kernel_rfl))
              · refine lOv (v := .bool true) (v0 := .bool (!(decide ((doE s (reqAt (bs.drop p))) = (0 : Int))))) 64 (congrArg Value.bool (by simp [he1])) (by kernel_rfl) ?_
                have hk : doK s (reqAt (bs.drop p)) ≠ 6 := fun h => he1 (doE_B.2 h).1
                refine lRunS 3 [] [(67, .bool true), (66, undef), (65, undef)] [] (by kernel_rfl) (lEnd (sIfT (by kernel_rfl) (sExit (by kernel_rfl) (sSeq (rRunS [] [(3, .int .i64 (p : Int)), (2, .pointer (some ⟨rb, 0, none⟩)), (73, .int .i64 (p : Int)), (72, .pointer (some ⟨rb, 0, none⟩))] [] (by kernel_rfl) ?_)))))
                refine sRet ?_
                have hfin : recM bs = (s, p) := hF.symm.trans (recF_stop hk)
                have hS2 : doS s (reqAt (bs.drop p)) = s := by unfold doS; rw [if_neg hk]
                have hs1 : doS s (reqAt (bs.drop p)) = (recM bs).1 := by rw [hS2, hfin]
                have hp1 : p = (recM bs).2 := by rw [hfin]
                refine wfRe (its' := [[(rb, .cells #[.slice da2.a (((recM bs).1).acc.length) da2.cap, .slice dc2.a (((recM bs).1).cli.length) dc2.cap, .slice dj2.a (((recM bs).1).jr.length) dj2.cap, .int .i64 ((((recM bs).1).cnt : Nat) : Int)] 86)], SD.blk 94 encAcc da2 (((recM bs).1).acc), SD.blk 92 encCli dc2 (((recM bs).1).cli), SD.blk 5 encByte dj2 (((recM bs).1).jr), D, F, [(b3, .cells #[.int .i64 ((reqAt (bs.drop p)).client), .int .i64 ((reqAt (bs.drop p)).seq), .string ((reqAt (bs.drop p)).key), .int .i64 ((reqAt (bs.drop p)).amount)] 35)]]) (by rw [← hs1] <;> rfl) ?_
                exact wRet (rb, da2, dc2, dj2) (0, 0) [] (.tuple #[.pointer (some ⟨rb, 0, none⟩), .int .i64 (p : Int)]) [.tmp 2, .tmp 3] rfl (by kernel_rfl) (by rw [← hp1]) (by rw [← hs1]; exact ⟨hda2, hdc2, hdj2⟩) (fun _ h => h.pick [0, 1, 2, 3, 4, 5] (by kernel_rfl) (by kernel_rfl))
          · refine hOp 14 [0, 1, 2, 3, 4, 5] (OS.run1 (0, 0) (fun b4 => .pointer (some ⟨b4, 0, none⟩)) (fun b4 => [[(rb, .cells #[.slice da.a s.acc.length da.cap, .slice dc.a s.cli.length dc.cap, .slice dj.a s.jr.length dj.cap, .int .i64 ((s.cnt : Nat) : Int)] 86)], SD.blk 94 encAcc da s.acc, SD.blk 92 encCli dc s.cli, SD.blk 5 encByte dj s.jr, D, F, [(b4, .cells #[.int .i64 0, .int .i64 0, .string (⟨#[]⟩ : ByteArray), .int .i64 0] 35)]]) (fun b4 => []) (by kernel_rfl) (fun b4 => by kernel_rfl)) (by kernel_rfl) (by kernel_rfl) (fun _ => by kernel_rfl) ?_
            rintro b4 -
            refine hOS 4 [0, 1, 2, 3, 4, 5] (OS.call (by kernel_rfl) (CP.ct (c_readS W base (qb := qb) (qo := qo + p * 1) (xs := (bs.drop p)) (m - p) (c - p) 4 8 hSX hdl (by omega) (by omega) (by omega)) [4] [1, 2, 3, 4, 0, 5, 6] (by kernel_rfl) (by kernel_rfl) (by kernel_rfl) (by kernel_rfl))) (by kernel_rfl) (by kernel_rfl) (by kernel_rfl) (fun _ => by kernel_rfl) ?_
            rintro ⟨⟩ -
            refine hTakes [5] [] [0, 1, 2, 3, 4, 5] [(46, .int .i64 (IntKind.i64.wrap ((valN (((bs.drop p).drop 4).take 8) : Nat) : Int)))] [] (by kernel_rfl) (by kernel_rfl) (by kernel_rfl) (by kernel_rfl) ?_
            refine hOS 11 [0, 1, 2, 3, 4, 5] (OS.call (by kernel_rfl) (CP.ct (c_readS W base (qb := qb) (qo := qo + p * 1) (xs := (bs.drop p)) (m - p) (c - p) 12 8 hSX hdl (by omega) (by omega) (by omega)) [4] [1, 2, 3, 4, 0, 5, 6] (by kernel_rfl) (by kernel_rfl) (by kernel_rfl) (by kernel_rfl))) (by kernel_rfl) (by kernel_rfl) (by kernel_rfl) (fun _ => by kernel_rfl) ?_
            rintro ⟨⟩ -
            refine hTakes [12, 13] [] [0, 1, 2, 3, 4, 5] [(54, .agg #[.int .i64 (IntKind.i64.wrap ((valN (((bs.drop p).drop 0).take 4) : Nat) : Int)), .int .i64 (IntKind.i64.wrap ((valN (((bs.drop p).drop 4).take 8) : Nat) : Int)), .string ((reqAt (bs.drop p)).key), .int .i64 (IntKind.i64.wrap ((valN (((bs.drop p).drop 12).take 8) : Nat) : Int))]), (53, .int .i64 (IntKind.i64.wrap ((valN (((bs.drop p).drop 12).take 8) : Nat) : Int)))] [] (by kernel_rfl) (by kernel_rfl) (by kernel_rfl) (by kernel_rfl) (hOv (v := .agg #[.int .i64 ((reqAt (bs.drop p)).client), .int .i64 ((reqAt (bs.drop p)).seq), .string ((reqAt (bs.drop p)).key), .int .i64 ((reqAt (bs.drop p)).amount)]) (v0 := .agg #[.int .i64 (IntKind.i64.wrap ((valN (((bs.drop p).drop 0).take 4) : Nat) : Int)), .int .i64 (IntKind.i64.wrap ((valN (((bs.drop p).drop 4).take 8) : Nat) : Int)), .string ((reqAt (bs.drop p)).key), .int .i64 (IntKind.i64.wrap ((valN (((bs.drop p).drop 12).take 8) : Nat) : Int))]) 54 rfl (by kernel_rfl) ?_)
            refine hOS 15 [0, 1, 2, 3, 4, 5] (OS.run (7, 0) undef [[(rb, .cells #[.slice da.a s.acc.length da.cap, .slice dc.a s.cli.length dc.cap, .slice dj.a s.jr.length dj.cap, .int .i64 ((s.cnt : Nat) : Int)] 86)], SD.blk 94 encAcc da s.acc, SD.blk 92 encCli dc s.cli, SD.blk 5 encByte dj s.jr, D, F, [(b4, .cells #[.int .i64 ((reqAt (bs.drop p)).client), .int .i64 ((reqAt (bs.drop p)).seq), .string ((reqAt (bs.drop p)).key), .int .i64 ((reqAt (bs.drop p)).amount)] 35)]] [b4, b4, b4, b4] (by kernel_rfl) (by kernel_rfl)) (by kernel_rfl) (by kernel_rfl) (by kernel_rfl) (fun _ => by kernel_rfl) ?_
            rintro ⟨⟩ -
            refine hEnd (by kernel_rfl) (sSeq (sReg (lRunS 2 [(1, 7, 0)] [(57, .agg #[.int .i64 ((reqAt (bs.drop p)).client), .int .i64 ((reqAt (bs.drop p)).seq), .string ((reqAt (bs.drop p)).key), .int .i64 ((reqAt (bs.drop p)).amount)]), (56, .pointer (some ⟨rb, 0, none⟩))] [b4, b4, b4, b4] (by kernel_rfl) ?_)))
            refine lCallP [0, 1, 2, 3] (c_rdo W base rb da dc dj s (reqAt (bs.drop p)) (reqAt_seq _) hs hda hdc hdj) (by kernel_rfl) (by kernel_rfl) (by kernel_rfl) ?_
            rintro ⟨da2, dc2, dj2⟩ ⟨hda2, hdc2, hdj2⟩
            refine lOv (v := .tuple #[.int .i64 (doV s (reqAt (bs.drop p))), .bool (doB s (reqAt (bs.drop p))), .int .i64 (doE s (reqAt (bs.drop p)))]) (v0 := resV s (reqAt (bs.drop p))) 58 rfl (by kernel_rfl) (lRunS 7 [] [(11, .int .i64 (doE s (reqAt (bs.drop p)))), (10, .bool (doB s (reqAt (bs.drop p)))), (9, .int .i64 (doV s (reqAt (bs.drop p)))), (61, .int .i64 (doE s (reqAt (bs.drop p)))), (60, .bool (doB s (reqAt (bs.drop p)))), (59, .int .i64 (doV s (reqAt (bs.drop p)))), (55, .tuple #[.int .i64 (doV s (reqAt (bs.drop p))), .bool (doB s (reqAt (bs.drop p))), .int .i64 (doE s (reqAt (bs.drop p)))])] [] (by kernel_rfl) (lEnd (sSeq (sSeq (sReg ?_)))))
            refine lRunS 3 [] [(64, .bool (!(decide ((doE s (reqAt (bs.drop p))) = (0 : Int))))), (63, .bool (!(decide ((doE s (reqAt (bs.drop p))) = (0 : Int))))), (62, .int .i64 (doE s (reqAt (bs.drop p))))] [] (by kernel_rfl) ?_
            rcases Classical.em (doE s (reqAt (bs.drop p)) = 0) with he1 | he1
            · refine lOv (v := .bool false) (v0 := .bool (!(decide ((doE s (reqAt (bs.drop p))) = (0 : Int))))) 64 (congrArg Value.bool (by simp [he1])) (by kernel_rfl) (lRunS 2 [] [(66, .bool (!(doB s (reqAt (bs.drop p))))), (65, .bool (doB s (reqAt (bs.drop p))))] [] (by kernel_rfl) ?_)
              rcases Classical.em (doB s (reqAt (bs.drop p)) = true) with hb1 | hb1
              · refine lOv (v := .bool false) (v0 := .bool (!(doB s (reqAt (bs.drop p))))) 66 (congrArg Value.bool (by simp [hb1])) (by kernel_rfl) (lRunS 1 [] [(67, .bool false)] [] (by kernel_rfl) (lEnd (sIfF (by kernel_rfl) (sSkip (sReg ?_)))))
                refine lRunS 3 [] [(70, .int .i64 (IntKind.i64.wrap ((p : Int) + (((szAt (bs.drop p)) : Nat) : Int)))), (69, .int .i64 (((szAt (bs.drop p)) : Nat) : Int)), (68, .int .i64 (p : Int))] [] (by kernel_rfl) (lOv 70 (iw (x := (p : Int) + (((szAt (bs.drop p)) : Nat) : Int)) (by omega)) (by kernel_rfl) (lRunS 1 [] [(71, .int .i64 (IntKind.i64.wrap (((p : Int) + (((szAt (bs.drop p)) : Nat) : Int)) + 4)))] [] (by kernel_rfl) (lOv (v := .int .i64 ((p + ((szAt (bs.drop p)) + 4) : Nat) : Int)) (v0 := .int .i64 (IntKind.i64.wrap (((p : Int) + (((szAt (bs.drop p)) : Nat) : Int)) + 4))) 71 (congrArg (Value.int .i64) ((wrap_i64 (by omega)).trans (by omega))) (by kernel_rfl) (lRunS 1 [] [(5, .int .i64 ((p + ((szAt (bs.drop p)) + 4) : Nat) : Int))] [] (by kernel_rfl) (lEnd ?_)))))
                refine sEnd ?_
                exact sPick [0, 1, 2, 3, 4, 5] (by kernel_rfl) (by kernel_rfl) (sAgain (p + ((szAt (bs.drop p)) + 4), f - 1, doS s (reqAt (bs.drop p)), da2, dc2, dj2) ⟨by omega, by omega, by rw [← hF, recF_yes hok (doE_B.1 ⟨he1, hb1⟩) (by omega)], doS_ok hs _, hda2, hdc2, hdj2⟩ (by first | omega | (simp only []; omega)) (by kernel_rfl) rfl)
              · refine lOv (v := .bool true) (v0 := .bool (!(doB s (reqAt (bs.drop p))))) 66 (congrArg Value.bool (by simp [hb1])) (by kernel_rfl) ?_
                have hk : doK s (reqAt (bs.drop p)) ≠ 6 := fun h => hb1 (doE_B.2 h).2
                refine lRunS 1 [] [(67, .bool true)] [] (by kernel_rfl) (lEnd (sIfT (by kernel_rfl) (sExit (by kernel_rfl) (sSeq (rRunS [] [(3, .int .i64 (p : Int)), (2, .pointer (some ⟨rb, 0, none⟩)), (73, .int .i64 (p : Int)), (72, .pointer (some ⟨rb, 0, none⟩))] [] (by kernel_rfl) ?_)))))
                refine sRet ?_
                have hfin : recM bs = (s, p) := hF.symm.trans (recF_stop hk)
                have hS2 : doS s (reqAt (bs.drop p)) = s := by unfold doS; rw [if_neg hk]
                have hs1 : doS s (reqAt (bs.drop p)) = (recM bs).1 := by rw [hS2, hfin]
                have hp1 : p = (recM bs).2 := by rw [hfin]
                refine wfRe (its' := [[(rb, .cells #[.slice da2.a (((recM bs).1).acc.length) da2.cap, .slice dc2.a (((recM bs).1).cli.length) dc2.cap, .slice dj2.a (((recM bs).1).jr.length) dj2.cap, .int .i64 ((((recM bs).1).cnt : Nat) : Int)] 86)], SD.blk 94 encAcc da2 (((recM bs).1).acc), SD.blk 92 encCli dc2 (((recM bs).1).cli), SD.blk 5 encByte dj2 (((recM bs).1).jr), D, F, [(b4, .cells #[.int .i64 ((reqAt (bs.drop p)).client), .int .i64 ((reqAt (bs.drop p)).seq), .string ((reqAt (bs.drop p)).key), .int .i64 ((reqAt (bs.drop p)).amount)] 35)]]) (by rw [← hs1] <;> rfl) ?_
                exact wRet (rb, da2, dc2, dj2) (0, 0) [] (.tuple #[.pointer (some ⟨rb, 0, none⟩), .int .i64 (p : Int)]) [.tmp 2, .tmp 3] rfl (by kernel_rfl) (by rw [← hp1]) (by rw [← hs1]; exact ⟨hda2, hdc2, hdj2⟩) (fun _ h => h.pick [0, 1, 2, 3, 4, 5] (by kernel_rfl) (by kernel_rfl))
            · refine lOv (v := .bool true) (v0 := .bool (!(decide ((doE s (reqAt (bs.drop p))) = (0 : Int))))) 64 (congrArg Value.bool (by simp [he1])) (by kernel_rfl) ?_
              have hk : doK s (reqAt (bs.drop p)) ≠ 6 := fun h => he1 (doE_B.2 h).1
              refine lRunS 3 [] [(67, .bool true), (66, undef), (65, undef)] [] (by kernel_rfl) (lEnd (sIfT (by kernel_rfl) (sExit (by kernel_rfl) (sSeq (rRunS [] [(3, .int .i64 (p : Int)), (2, .pointer (some ⟨rb, 0, none⟩)), (73, .int .i64 (p : Int)), (72, .pointer (some ⟨rb, 0, none⟩))] [] (by kernel_rfl) ?_)))))
              refine sRet ?_
              have hfin : recM bs = (s, p) := hF.symm.trans (recF_stop hk)
              have hS2 : doS s (reqAt (bs.drop p)) = s := by unfold doS; rw [if_neg hk]
              have hs1 : doS s (reqAt (bs.drop p)) = (recM bs).1 := by rw [hS2, hfin]
              have hp1 : p = (recM bs).2 := by rw [hfin]
              refine wfRe (its' := [[(rb, .cells #[.slice da2.a (((recM bs).1).acc.length) da2.cap, .slice dc2.a (((recM bs).1).cli.length) dc2.cap, .slice dj2.a (((recM bs).1).jr.length) dj2.cap, .int .i64 ((((recM bs).1).cnt : Nat) : Int)] 86)], SD.blk 94 encAcc da2 (((recM bs).1).acc), SD.blk 92 encCli dc2 (((recM bs).1).cli), SD.blk 5 encByte dj2 (((recM bs).1).jr), D, F, [(b4, .cells #[.int .i64 ((reqAt (bs.drop p)).client), .int .i64 ((reqAt (bs.drop p)).seq), .string ((reqAt (bs.drop p)).key), .int .i64 ((reqAt (bs.drop p)).amount)] 35)]]) (by rw [← hs1] <;> rfl) ?_
              exact wRet (rb, da2, dc2, dj2) (0, 0) [] (.tuple #[.pointer (some ⟨rb, 0, none⟩), .int .i64 (p : Int)]) [.tmp 2, .tmp 3] rfl (by kernel_rfl) (by rw [← hp1]) (by rw [← hs1]; exact ⟨hda2, hdc2, hdj2⟩) (fun _ h => h.pick [0, 1, 2, 3, 4, 5] (by kernel_rfl) (by kernel_rfl))
        · refine hOp 14 [0, 1, 2, 3, 4, 5] (OS.run1 (0, 0) (fun b5 => .pointer (some ⟨b5, 0, none⟩)) (fun b5 => [[(rb, .cells #[.slice da.a s.acc.length da.cap, .slice dc.a s.cli.length dc.cap, .slice dj.a s.jr.length dj.cap, .int .i64 ((s.cnt : Nat) : Int)] 86)], SD.blk 94 encAcc da s.acc, SD.blk 92 encCli dc s.cli, SD.blk 5 encByte dj s.jr, D, F, [(b5, .cells #[.int .i64 0, .int .i64 0, .string (⟨#[]⟩ : ByteArray), .int .i64 0] 35)]]) (fun b5 => []) (by kernel_rfl) (fun b5 => by kernel_rfl)) (by kernel_rfl) (by kernel_rfl) (fun _ => by kernel_rfl) ?_
          rintro b5 -
          refine hOS 1 [0, 1, 2, 3, 4, 5] (OS.call (by kernel_rfl) (CP.ct (c_readS W base (qb := qb) (qo := qo + p * 1) (xs := (bs.drop p)) (m - p) (c - p) 0 4 hSX hdl (by omega) (by omega) (by omega)) [4] [1, 2, 3, 4, 0, 5, 6] (by kernel_rfl) (by kernel_rfl) (by kernel_rfl) (by kernel_rfl))) (by kernel_rfl) (by kernel_rfl) (by kernel_rfl) (fun _ => by kernel_rfl) ?_
          rintro ⟨⟩ -
          refine hTakes [2] [] [0, 1, 2, 3, 4, 5] [(43, .int .i64 (IntKind.i64.wrap ((valN (((bs.drop p).drop 0).take 4) : Nat) : Int)))] [] (by kernel_rfl) (by kernel_rfl) (by kernel_rfl) (by kernel_rfl) ?_
          refine hOS 4 [0, 1, 2, 3, 4, 5] (OS.call (by kernel_rfl) (CP.ct (c_readS W base (qb := qb) (qo := qo + p * 1) (xs := (bs.drop p)) (m - p) (c - p) 4 8 hSX hdl (by omega) (by omega) (by omega)) [4] [1, 2, 3, 4, 0, 5, 6] (by kernel_rfl) (by kernel_rfl) (by kernel_rfl) (by kernel_rfl))) (by kernel_rfl) (by kernel_rfl) (by kernel_rfl) (fun _ => by kernel_rfl) ?_
          rintro ⟨⟩ -
          refine hTakes [5] [] [0, 1, 2, 3, 4, 5] [(46, .int .i64 (IntKind.i64.wrap ((valN (((bs.drop p).drop 4).take 8) : Nat) : Int)))] [] (by kernel_rfl) (by kernel_rfl) (by kernel_rfl) (by kernel_rfl) ?_
          refine hOS 11 [0, 1, 2, 3, 4, 5] (OS.call (by kernel_rfl) (CP.ct (c_readS W base (qb := qb) (qo := qo + p * 1) (xs := (bs.drop p)) (m - p) (c - p) 12 8 hSX hdl (by omega) (by omega) (by omega)) [4] [1, 2, 3, 4, 0, 5, 6] (by kernel_rfl) (by kernel_rfl) (by kernel_rfl) (by kernel_rfl))) (by kernel_rfl) (by kernel_rfl) (by kernel_rfl) (fun _ => by kernel_rfl) ?_
          rintro ⟨⟩ -
          refine hTakes [12, 13] [] [0, 1, 2, 3, 4, 5] [(54, .agg #[.int .i64 (IntKind.i64.wrap ((valN (((bs.drop p).drop 0).take 4) : Nat) : Int)), .int .i64 (IntKind.i64.wrap ((valN (((bs.drop p).drop 4).take 8) : Nat) : Int)), .string ((reqAt (bs.drop p)).key), .int .i64 (IntKind.i64.wrap ((valN (((bs.drop p).drop 12).take 8) : Nat) : Int))]), (53, .int .i64 (IntKind.i64.wrap ((valN (((bs.drop p).drop 12).take 8) : Nat) : Int)))] [] (by kernel_rfl) (by kernel_rfl) (by kernel_rfl) (by kernel_rfl) (hOv (v := .agg #[.int .i64 ((reqAt (bs.drop p)).client), .int .i64 ((reqAt (bs.drop p)).seq), .string ((reqAt (bs.drop p)).key), .int .i64 ((reqAt (bs.drop p)).amount)]) (v0 := .agg #[.int .i64 (IntKind.i64.wrap ((valN (((bs.drop p).drop 0).take 4) : Nat) : Int)), .int .i64 (IntKind.i64.wrap ((valN (((bs.drop p).drop 4).take 8) : Nat) : Int)), .string ((reqAt (bs.drop p)).key), .int .i64 (IntKind.i64.wrap ((valN (((bs.drop p).drop 12).take 8) : Nat) : Int))]) 54 rfl (by kernel_rfl) ?_)
          refine hOS 15 [0, 1, 2, 3, 4, 5] (OS.run (7, 0) undef [[(rb, .cells #[.slice da.a s.acc.length da.cap, .slice dc.a s.cli.length dc.cap, .slice dj.a s.jr.length dj.cap, .int .i64 ((s.cnt : Nat) : Int)] 86)], SD.blk 94 encAcc da s.acc, SD.blk 92 encCli dc s.cli, SD.blk 5 encByte dj s.jr, D, F, [(b5, .cells #[.int .i64 ((reqAt (bs.drop p)).client), .int .i64 ((reqAt (bs.drop p)).seq), .string ((reqAt (bs.drop p)).key), .int .i64 ((reqAt (bs.drop p)).amount)] 35)]] [b5, b5, b5, b5] (by kernel_rfl) (by kernel_rfl)) (by kernel_rfl) (by kernel_rfl) (by kernel_rfl) (fun _ => by kernel_rfl) ?_
          rintro ⟨⟩ -
          refine hEnd (by kernel_rfl) (sSeq (sReg (lRunS 2 [(1, 7, 0)] [(57, .agg #[.int .i64 ((reqAt (bs.drop p)).client), .int .i64 ((reqAt (bs.drop p)).seq), .string ((reqAt (bs.drop p)).key), .int .i64 ((reqAt (bs.drop p)).amount)]), (56, .pointer (some ⟨rb, 0, none⟩))] [b5, b5, b5, b5] (by kernel_rfl) ?_)))
          refine lCallP [0, 1, 2, 3] (c_rdo W base rb da dc dj s (reqAt (bs.drop p)) (reqAt_seq _) hs hda hdc hdj) (by kernel_rfl) (by kernel_rfl) (by kernel_rfl) ?_
          rintro ⟨da2, dc2, dj2⟩ ⟨hda2, hdc2, hdj2⟩
          refine lOv (v := .tuple #[.int .i64 (doV s (reqAt (bs.drop p))), .bool (doB s (reqAt (bs.drop p))), .int .i64 (doE s (reqAt (bs.drop p)))]) (v0 := resV s (reqAt (bs.drop p))) 58 rfl (by kernel_rfl) (lRunS 7 [] [(11, .int .i64 (doE s (reqAt (bs.drop p)))), (10, .bool (doB s (reqAt (bs.drop p)))), (9, .int .i64 (doV s (reqAt (bs.drop p)))), (61, .int .i64 (doE s (reqAt (bs.drop p)))), (60, .bool (doB s (reqAt (bs.drop p)))), (59, .int .i64 (doV s (reqAt (bs.drop p)))), (55, .tuple #[.int .i64 (doV s (reqAt (bs.drop p))), .bool (doB s (reqAt (bs.drop p))), .int .i64 (doE s (reqAt (bs.drop p)))])] [] (by kernel_rfl) (lEnd (sSeq (sSeq (sReg ?_)))))
          refine lRunS 3 [] [(64, .bool (!(decide ((doE s (reqAt (bs.drop p))) = (0 : Int))))), (63, .bool (!(decide ((doE s (reqAt (bs.drop p))) = (0 : Int))))), (62, .int .i64 (doE s (reqAt (bs.drop p))))] [] (by kernel_rfl) ?_
          rcases Classical.em (doE s (reqAt (bs.drop p)) = 0) with he1 | he1
          · refine lOv (v := .bool false) (v0 := .bool (!(decide ((doE s (reqAt (bs.drop p))) = (0 : Int))))) 64 (congrArg Value.bool (by simp [he1])) (by kernel_rfl) (lRunS 2 [] [(66, .bool (!(doB s (reqAt (bs.drop p))))), (65, .bool (doB s (reqAt (bs.drop p))))] [] (by kernel_rfl) ?_)
            rcases Classical.em (doB s (reqAt (bs.drop p)) = true) with hb1 | hb1
            · refine lOv (v := .bool false) (v0 := .bool (!(doB s (reqAt (bs.drop p))))) 66 (congrArg Value.bool (by simp [hb1])) (by kernel_rfl) (lRunS 1 [] [(67, .bool false)] [] (by kernel_rfl) (lEnd (sIfF (by kernel_rfl) (sSkip (sReg ?_)))))
              refine lRunS 3 [] [(70, .int .i64 (IntKind.i64.wrap ((p : Int) + (((szAt (bs.drop p)) : Nat) : Int)))), (69, .int .i64 (((szAt (bs.drop p)) : Nat) : Int)), (68, .int .i64 (p : Int))] [] (by kernel_rfl) (lOv 70 (iw (x := (p : Int) + (((szAt (bs.drop p)) : Nat) : Int)) (by omega)) (by kernel_rfl) (lRunS 1 [] [(71, .int .i64 (IntKind.i64.wrap (((p : Int) + (((szAt (bs.drop p)) : Nat) : Int)) + 4)))] [] (by kernel_rfl) (lOv (v := .int .i64 ((p + ((szAt (bs.drop p)) + 4) : Nat) : Int)) (v0 := .int .i64 (IntKind.i64.wrap (((p : Int) + (((szAt (bs.drop p)) : Nat) : Int)) + 4))) 71 (congrArg (Value.int .i64) ((wrap_i64 (by omega)).trans (by omega))) (by kernel_rfl) (lRunS 1 [] [(5, .int .i64 ((p + ((szAt (bs.drop p)) + 4) : Nat) : Int))] [] (by kernel_rfl) (lEnd ?_)))))
              refine sEnd ?_
              exact sPick [0, 1, 2, 3, 4, 5] (by kernel_rfl) (by kernel_rfl) (sAgain (p + ((szAt (bs.drop p)) + 4), f - 1, doS s (reqAt (bs.drop p)), da2, dc2, dj2) ⟨by omega, by omega, by rw [← hF, recF_yes hok (doE_B.1 ⟨he1, hb1⟩) (by omega)], doS_ok hs _, hda2, hdc2, hdj2⟩ (by first | omega | (simp only []; omega)) (by kernel_rfl) rfl)
            · refine lOv (v := .bool true) (v0 := .bool (!(doB s (reqAt (bs.drop p))))) 66 (congrArg Value.bool (by simp [hb1])) (by kernel_rfl) ?_
              have hk : doK s (reqAt (bs.drop p)) ≠ 6 := fun h => hb1 (doE_B.2 h).2
              refine lRunS 1 [] [(67, .bool true)] [] (by kernel_rfl) (lEnd (sIfT (by kernel_rfl) (sExit (by kernel_rfl) (sSeq (rRunS [] [(3, .int .i64 (p : Int)), (2, .pointer (some ⟨rb, 0, none⟩)), (73, .int .i64 (p : Int)), (72, .pointer (some ⟨rb, 0, none⟩))] [] (by kernel_rfl) ?_)))))
              refine sRet ?_
              have hfin : recM bs = (s, p) := hF.symm.trans (recF_stop hk)
              have hS2 : doS s (reqAt (bs.drop p)) = s := by unfold doS; rw [if_neg hk]
              have hs1 : doS s (reqAt (bs.drop p)) = (recM bs).1 := by rw [hS2, hfin]
              have hp1 : p = (recM bs).2 := by rw [hfin]
              refine wfRe (its' := [[(rb, .cells #[.slice da2.a (((recM bs).1).acc.length) da2.cap, .slice dc2.a (((recM bs).1).cli.length) dc2.cap, .slice dj2.a (((recM bs).1).jr.length) dj2.cap, .int .i64 ((((recM bs).1).cnt : Nat) : Int)] 86)], SD.blk 94 encAcc da2 (((recM bs).1).acc), SD.blk 92 encCli dc2 (((recM bs).1).cli), SD.blk 5 encByte dj2 (((recM bs).1).jr), D, F, [(b5, .cells #[.int .i64 ((reqAt (bs.drop p)).client), .int .i64 ((reqAt (bs.drop p)).seq), .string ((reqAt (bs.drop p)).key), .int .i64 ((reqAt (bs.drop p)).amount)] 35)]]) (by rw [← hs1] <;> rfl) ?_
              exact wRet (rb, da2, dc2, dj2) (0, 0) [] (.tuple #[.pointer (some ⟨rb, 0, none⟩), .int .i64 (p : Int)]) [.tmp 2, .tmp 3] rfl (by kernel_rfl) (by rw [← hp1]) (by rw [← hs1]; exact ⟨hda2, hdc2, hdj2⟩) (fun _ h => h.pick [0, 1, 2, 3, 4, 5] (by kernel_rfl) (by kernel_rfl))
          · refine lOv (v := .bool true) (v0 := .bool (!(decide ((doE s (reqAt (bs.drop p))) = (0 : Int))))) 64 (congrArg Value.bool (by simp [he1])) (by kernel_rfl) ?_
            have hk : doK s (reqAt (bs.drop p)) ≠ 6 := fun h => he1 (doE_B.2 h).1
            refine lRunS 3 [] [(67, .bool true), (66, undef), (65, undef)] [] (by kernel_rfl) (lEnd (sIfT (by kernel_rfl) (sExit (by kernel_rfl) (sSeq (rRunS [] [(3, .int .i64 (p : Int)), (2, .pointer (some ⟨rb, 0, none⟩)), (73, .int .i64 (p : Int)), (72, .pointer (some ⟨rb, 0, none⟩))] [] (by kernel_rfl) ?_)))))
            refine sRet ?_
            have hfin : recM bs = (s, p) := hF.symm.trans (recF_stop hk)
            have hS2 : doS s (reqAt (bs.drop p)) = s := by unfold doS; rw [if_neg hk]
            have hs1 : doS s (reqAt (bs.drop p)) = (recM bs).1 := by rw [hS2, hfin]
            have hp1 : p = (recM bs).2 := by rw [hfin]
            refine wfRe (its' := [[(rb, .cells #[.slice da2.a (((recM bs).1).acc.length) da2.cap, .slice dc2.a (((recM bs).1).cli.length) dc2.cap, .slice dj2.a (((recM bs).1).jr.length) dj2.cap, .int .i64 ((((recM bs).1).cnt : Nat) : Int)] 86)], SD.blk 94 encAcc da2 (((recM bs).1).acc), SD.blk 92 encCli dc2 (((recM bs).1).cli), SD.blk 5 encByte dj2 (((recM bs).1).jr), D, F, [(b5, .cells #[.int .i64 ((reqAt (bs.drop p)).client), .int .i64 ((reqAt (bs.drop p)).seq), .string ((reqAt (bs.drop p)).key), .int .i64 ((reqAt (bs.drop p)).amount)] 35)]]) (by rw [← hs1] <;> rfl) ?_
            exact wRet (rb, da2, dc2, dj2) (0, 0) [] (.tuple #[.pointer (some ⟨rb, 0, none⟩), .int .i64 (p : Int)]) [.tmp 2, .tmp 3] rfl (by kernel_rfl) (by rw [← hp1]) (by rw [← hs1]; exact ⟨hda2, hdc2, hdj2⟩) (fun _ h => h.pick [0, 1, 2, 3, 4, 5] (by kernel_rfl) (by kernel_rfl))
  · have hno : ¬ okAt (bs.drop p) := fun h => by have := h.1; rw [List.length_drop] at this; omega
    refine sExit (by kernel_rfl) (sSeq (rRunS [] [(3, .int .i64 (p : Int)), (2, .pointer (some ⟨rb, 0, none⟩)), (73, .int .i64 (p : Int)), (72, .pointer (some ⟨rb, 0, none⟩))] [] (by kernel_rfl) (sRet ?_)))
    have hfin : recM bs = (s, p) := hF.symm.trans (recF_no hno)
    have hs1 : s = (recM bs).1 := by rw [hfin]
    have hp1 : p = (recM bs).2 := by rw [hfin]
    refine wfRe (its' := [[(rb, .cells #[.slice da.a (((recM bs).1).acc.length) da.cap, .slice dc.a (((recM bs).1).cli.length) dc.cap, .slice dj.a (((recM bs).1).jr.length) dj.cap, .int .i64 ((((recM bs).1).cnt : Nat) : Int)] 86)], SD.blk 94 encAcc da (((recM bs).1).acc), SD.blk 92 encCli dc (((recM bs).1).cli), SD.blk 5 encByte dj (((recM bs).1).jr), D, F]) (by rw [← hs1] <;> rfl) ?_
    exact wRet (rb, da, dc, dj) (0, 0) [] (.tuple #[.pointer (some ⟨rb, 0, none⟩), .int .i64 (p : Int)]) [.tmp 2, .tmp 3] rfl (by kernel_rfl) (by rw [← hp1]) (by rw [← hs1]; exact ⟨hda, hdc, hdj⟩) (fun _ h => h)

end Go.Proofs.YtljfjiaiachbfaaDoor
