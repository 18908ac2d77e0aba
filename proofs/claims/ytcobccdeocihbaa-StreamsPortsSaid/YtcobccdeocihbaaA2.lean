/- Datagrams and ports as Lean functions; the walks of Clone, Equal, NewPort and Put. -/
import Derived.Test.YtcobccdeocihbaaProg
import Derived.Test.YtcobccdeocihbaaSl
import Derived.Test.YtcobccdeocihbaaA1
namespace Go.Proofs.Ytcobccdeocihbaa
open Go.Sx
set_option maxRecDepth 100000
set_option linter.unusedSimpArgs false
set_option linter.unusedVariables false
structure Dg where
  frm : Int
  to : Int
  data : List UInt8
  d : SD
def encDg (x : Dg) : List Value := [.int .i64 x.frm, .int .i64 x.to, .slice x.d.a x.data.length x.d.cap]
theorem one_encDg {x : Dg} {u : Value} (h : u ∈ encDg x) : oneC u = true := by
  simp only [encDg, List.mem_cons, List.mem_nil_iff, or_false] at h
  rcases h with rfl | rfl | rfl <;> rfl
def QB (q : List Dg) : List Blk := q.flatMap fun x => SD.blk 5 encByte x.d x.data
theorem QB_snoc (q : List Dg) (x : Dg) : QB (q ++ [x]) = QB q ++ SD.blk 5 encByte x.d x.data := by simp [QB]
theorem QB_cons (q : List Dg) (x : Dg) : QB (x :: q) = SD.blk 5 encByte x.d x.data ++ QB q := by simp [QB]
def QOk (q : List Dg) : Prop := ∀ x ∈ q, x.d.ok 1 x.data.length
def core (x : Dg) : Int × Int × List UInt8 := (x.frm, x.to, x.data)
abbrev sdn : SD := ⟨none, 0, []⟩
abbrev sen : SE := ⟨none, 0, [], []⟩
def goodP (num lim : Int) : Prop := (0 ≤ num ∧ num ≤ 65535) ∧ (1 ≤ lim ∧ lim ≤ 100)
def portB (n : Int) : Bool := bif decide (n ≥ (0 : Int)) then decide (n ≤ (65535 : Int)) else false
theorem portB_iff {n : Int} : portB n = true ↔ 0 ≤ n ∧ n ≤ 65535 := by
  unfold portB
  by_cases h : n ≥ (0 : Int)
  · rw [decide_eq_true h]; simp only [cond_true, decide_eq_true_eq]; omega
  · rw [decide_eq_false h]; simp only [cond_false]; constructor
    · intro h2; cases h2
    · omega
def putK (num lim : Int) (n : Nat) (f t : Int) (m : Nat) : Nat :=
  if ¬ (portB f = true) ∨ ¬ (portB t = true) then 0 else if (m : Int) > 4096 then 1 else if ¬ t = num then 2 else if (n : Int) ≥ lim then 3 else 4
def resP : Nat → Value
  | 0 => .tuple #[.bool false, .int .i64 34] | 1 => .tuple #[.bool false, .int .i64 20] | 2 => .tuple #[.bool false, .int .i64 14] | 3 => .tuple #[.bool false, .int .i64 0] | _ => .tuple #[.bool true, .int .i64 0]
def putQ (k : Nat) (q : List Dg) (x : Dg) : List Dg := if k = 4 then q ++ [x] else q
theorem putQ_4 {k : Nat} (h : k = 4) (q : List Dg) (x : Dg) : putQ k q x = q ++ [x] := by unfold putQ; rw [if_pos h]
theorem putQ_n {k : Nat} (h : k ≠ 4) (q : List Dg) (x : Dg) : putQ k q x = q := by unfold putQ; rw [if_neg h]
section
variable {P : Program} {W : World} {base : List Blk} {its : Items}
theorem seqNil (w : World) (d : Nat) (t e : TypeId) (a : Option Addr) (l c : Nat) (h : P.underlying t = some (.slice e)) : (Op.equalIn (d + 1) t (.slice a l c) (.slice none 0 0)).run P w = .ok a.isNone w := by
  cases a <;> simp [Op.equalIn, run_underlying h]
theorem runSliceNil {T e : TypeId} {o1 o2 : Operand} {a : Option Addr} {n c : Nat} (hT : P.underlying T = some (.slice e)) :
    RunR P W base its (do pure (Next.value (← (do eqGuard .eql T o1 o2 (.slice a n c) (.slice none 0 0); binOp .eql T (.slice a n c) (.slice none 0 0))))) (.value (.bool a.isNone)) := by
  intro _ w _
  have h : (Op.equal T (.slice a n c) (.slice none 0 0)).run P w = .ok a.isNone w := seqNil w 9999 T e a n c hT
  have hb : (binOp .eql T (.slice a n c) (.slice none 0 0)).run P w = .ok (.bool a.isNone) w := by
    show (do pure (Value.bool (← Op.equal T (.slice a n c) (.slice none 0 0))) : Sem Value).run P w = _
    rw [Sem.run_bind, h]; rfl
  show (do pure (Next.value (← binOp .eql T (.slice a n c) (.slice none 0 0))) : Sem Next).run P w = _
  rw [Sem.run_bind, hb]; rfl
theorem srcTail {b c m : Nat} {x : Dg} {q : List Dg} {r : List Value} {T : TypeId} (i : Nat) (hi : its[i]? = some [(b, .cells (arr encDg (x :: q) r) T (0, 0))]) (hm : q.length = m) (hc : m + 1 ≤ c) :
    BaseOk W base → ∀ w, SatI W w its → m = 0 ∨ ∃ p, (some (⟨b, if c = 1 then 0 else 0 + 1 * 3, none⟩ : Addr)) = some p ∧ ∀ j u, (q.flatMap encDg)[j]? = some u → w.cell? (p.add j) = some u := by
  intro hb w hs
  rcases Nat.eq_zero_or_pos m with h0 | h0
  · exact .inl h0
  refine .inr ⟨_, rfl, fun j u hu => ?_⟩
  rw [if_neg (by omega)]
  have hh : w.heap[b]? = some (.cells (arr encDg (x :: q) r) T (0, 0)) := hs.at hb (ij := (i + 1, 0)) (by simp only [blkAt, hi]; rfl)
  have hadd : (⟨b, 0 + 1 * 3, none⟩ : Addr).add j = ⟨b, 3 + j, none⟩ := by unfold Addr.add; split <;> simp_all
  rw [hadd]
  refine cell_of hh ?_
  simp only [arr, List.getElem?_toArray, List.flatMap_cons]
  rw [List.append_assoc, List.getElem?_append_right (by simp [encDg]), show 3 + j - (encDg x).length = j by simp [encDg], List.getElem?_append_left (List.getElem?_eq_some_iff.1 hu).1]; exact hu
end

theorem np_bad {num lim : Int} (h : ¬ goodP num lim) : ((¬ (portB num = true)) ∨ (lim < (1 : Int))) ∨ (lim > (100 : Int)) := by
  rw [portB_iff]; unfold goodP at h; omega
theorem np_good {num lim : Int} (h : goodP num lim) : ¬ (((¬ (portB num = true)) ∨ (lim < (1 : Int))) ∨ (lim > (100 : Int))) := by
  rw [portB_iff]; unfold goodP at h; omega
theorem rnp_bad {num lim : Int} (h : ¬ goodP num lim) : (((num < (0 : Int)) ∨ (num > (65535 : Int))) ∨ (lim < (1 : Int))) ∨ (lim > (100 : Int)) := by
  unfold goodP at h; omega
theorem rnp_good {num lim : Int} (h : goodP num lim) : ¬ ((((num < (0 : Int)) ∨ (num > (65535 : Int))) ∨ (lim < (1 : Int))) ∨ (lim > (100 : Int))) := by
  unfold goodP at h; omega

theorem c_port (W : World) (base : List Blk) (n : Int) : CP Try.prog W base 32 #[.int .i64 n] [] (.bool (portB n)) := by
  intro F
  refine ctIntro Try.func32 rfl rfl (by kernel_rfl) ?_
  refine sSeq (rRunS [] [(2, .bool false)] [] (by kernel_rfl) (sSeq (sReg (lRunS 3 [] [(5, .bool (decide (n ≥ (0 : Int)))), (4, .bool (decide (n ≥ (0 : Int)))), (3, .int .i64 n)] [] (by kernel_rfl) (lShort 3 [] 5 (decide (n ≥ (0 : Int))) 8 (decide (n ≤ (65535 : Int))) false [(7, .bool (decide (n ≤ (65535 : Int)))), (6, .int .i64 n)] [(7, undef), (6, undef)] [] [] (by kernel_rfl) (by kernel_rfl) (by kernel_rfl) (by kernel_rfl) ?_)))))
  refine lRunS 1 [] [(2, .bool (bif decide (n ≥ (0 : Int)) then decide (n ≤ (65535 : Int)) else false))] [] (by kernel_rfl) (lEnd (sRet ?_))
  exact wRet () (0, 0) [] (.bool (bif decide (n ≥ (0 : Int)) then decide (n ≤ (65535 : Int)) else false)) [.tmp 2] rfl (by kernel_rfl) rfl trivial (fun _ h => h)

theorem c_clone (W : World) (base : List Blk) (a : Option Addr) (c : Nat) (bs : List UInt8) (hB : BS W encByte a bs) (hmx : bs.length ≤ 1000000) :
    CF Try.prog W base 33 #[.slice a bs.length c] [] (fun d : SD => .slice d.a bs.length d.cap) (fun d => [SD.blk 5 encByte d bs]) (fun d => d.ok 1 bs.length) := by
  intro F
  refine ctIntro Try.func33 rfl rfl (by kernel_rfl) ?_
  refine sSeq (rRunS [] [(2, .slice none 0 0)] [] (by kernel_rfl) (sSeq (sSeq (sReg (lRunS 1 [] [(3, .slice a bs.length c)] [] (by kernel_rfl) ?_)))))
  refine lR (u := .bool a.isNone) (runSliceNil (T := 26) (e := 5) (o1 := (.tmp 3)) (o2 := (.const (.slice none 0 0))) (a := a) (n := bs.length) (c := c) (by kernel_rfl)) (by kernel_rfl) (by kernel_rfl) (by kernel_rfl) ?_
  rcases Bool.eq_false_or_eq_true a.isNone with h1 | h1
  · refine lOv (v := .bool true) (v0 := .bool a.isNone) 4 (congrArg Value.bool h1) (by kernel_rfl) (lEnd (sIfT (by kernel_rfl) (sSeq (rRunS [] [(2, .slice none 0 0)] [] (by kernel_rfl) (sRet ?_)))))
    have hn : bs = [] := hB.resolve_right (by rintro ⟨qb, qo, rfl, _⟩; simp at h1)
    subst hn
    refine wfRe (its' := [F, SD.blk 5 encByte sdn []]) rfl ?_
    exact wRet sdn (0, 0) [] (.slice none 0 0) [.tmp 2] rfl (by kernel_rfl) rfl (SD.ok_nil 1) (fun _ h => h.pick [1, 0] (by kernel_rfl) (by kernel_rfl))
  · refine lOv (v := .bool false) (v0 := .bool a.isNone) 4 (congrArg Value.bool h1) (by kernel_rfl) (lEnd (sIfF (by kernel_rfl) (sSkip (sSeq (sReg ?_)))))
    refine lRunN 2 [] (fun b1 => [(6, .slice a bs.length c), (5, .slice (some ⟨b1, 0, none⟩) 0 0)]) (fun b1 => []) (fun b1 => .cells #[] 5) (fun b1 => []) (fun b1 => by kernel_rfl) (fun b1 => ?_)
    refine lX (u := fun d' : SD => .slice d'.a (0 + bs.length) d'.cap) (runAppendS (t := 26) (ty := 26) (sa := a) (c2 := c) (m := bs.length) (k := 1) (e := 5) (by_ := 1) (z := [.int .u8 0]) (f := encByte) (fun _ => rfl) ⟨some ⟨b1, 0, none⟩, 0, []⟩ [] bs 0 1 (by kernel_rfl) (by kernel_rfl) rfl rfl (by kernel_rfl) rfl (SD.ok_lit b1 0) (srcB hB) (fun _ _ _ hu => one_encByte hu) rfl (by omega) (by omega)) (by kernel_rfl) (by kernel_rfl) (fun _ => by kernel_rfl) ?_
    rintro d2 okd2
    refine lRunS 1 [] [(2, .slice d2.a (0 + bs.length) d2.cap)] [] (by kernel_rfl) (lEnd (sRet ?_))
    refine wfRe (its' := [F, SD.blk 5 encByte d2 bs]) (by rfl) ?_
    exact wRet d2 (0, 0) [] (.slice d2.a (0 + bs.length) d2.cap) [.tmp 2] rfl (by kernel_rfl) (by rw [Nat.zero_add]) (by have h := okd2; rwa [Nat.zero_add] at h) (fun _ h => h.pick [1, 0] (by kernel_rfl) (by kernel_rfl))

theorem c_equalT (W : World) (base : List Blk) (d1 d2 : SD) (xs : List UInt8) (hd1 : d1.ok 1 xs.length) (hd2 : d2.ok 1 xs.length) (hx : xs.length ≤ 1000000) : CP Try.prog W base 14 #[.slice d1.a xs.length d1.cap, .slice d2.a xs.length d2.cap] [SD.blk 5 encByte d1 xs, SD.blk 5 encByte d2 xs] (.bool true) := by
  intro F
  refine ctIntro Try.func14 rfl rfl (by kernel_rfl) ?_
  refine sSeq (rRunS [] [(4, .bool false)] [] (by kernel_rfl) (sSeq (sSeq (sReg (lRunS 5 [] [(10, .bool (!(decide ((xs.length : Int) = (xs.length : Int))))), (9, .int .i64 (xs.length : Int)), (8, .slice d2.a xs.length d2.cap), (7, .int .i64 (xs.length : Int)), (6, .slice d1.a xs.length d1.cap)] [] (by kernel_rfl) ?_)))))
  refine lOv (v := .bool false) (v0 := .bool (!(decide ((xs.length : Int) = (xs.length : Int))))) 10 (congrArg Value.bool (by simp)) (by kernel_rfl) (lEnd (sIfF (by kernel_rfl) (sSkip (sSeq (sSeq ?_)))))
  refine rRunS [] [(13, .int .i64 0), (12, .int .i64 (xs.length : Int)), (11, .slice d1.a xs.length d1.cap)] [] (by kernel_rfl) (sBlock ?_)
  refine sLoop (fun (i : Nat) => [(13, .int .i64 (i : Int)), (12, .int .i64 (xs.length : Int)), (1, .slice d2.a xs.length d2.cap), (0, .slice d1.a xs.length d1.cap)]) (fun (i : Nat) => [SD.blk 5 encByte d1 xs, SD.blk 5 encByte d2 xs, F]) (fun (i : Nat) => i ≤ xs.length) (fun (i : Nat) => xs.length - i) 0 (by omega) (by kernel_rfl) rfl ?_
  rintro i hi
  refine sSeq (rRunS [] [(14, .bool (decide ((i : Int) < (xs.length : Int))))] [] (by kernel_rfl) (sSeq ?_))
  refine sIfP (bpD ((i : Int) < (xs.length : Int))) (by kernel_rfl) (fun h1 => ?_) (fun h1 => ?_)
  · refine sSkip (sSeq (sBlock (sSeq (rRunS [] [(5, .int .i64 (i : Int)), (15, .int .i64 (i : Int))] [] (by kernel_rfl) (sSeq ?_)))))
    refine rQuiet (by kernel_rfl) (by kernel_rfl) (qRun 2 [] [(17, .int .i64 (i : Int)), (16, .slice d1.a xs.length d1.cap)] [] (by kernel_rfl) ?_)
    obtain ⟨q1, hq1⟩ := sd_at hd1 (by omega)
    refine qR (u := .pointer (some ⟨q1, i * 1, none⟩)) (runIndexD0 (T := 26) (E := 5) (n := xs.length) (c := d1.cap) (b := q1) (k := 1) (ik := .i64) i hq1 (by kernel_rfl) (by kernel_rfl) (by omega)) (by kernel_rfl) (by kernel_rfl) (by kernel_rfl) ?_
    obtain ⟨x2, hx2⟩ : ∃ x, xs[i]? = some x := ⟨_, List.getElem?_eq_getElem (by (try simp only [List.length_set, List.length_append, List.length_replicate, List.length_cons, List.length_nil]); omega)⟩
    refine qR (u := .int .u8 ((x2.toNat : Nat) : Int)) (runLoadE1 (f := encByte) (T := 5) (b := q1) (T' := 5) (rest := d1.rest) (v := .int .u8 ((x2.toNat : Nat) : Int)) (fun _ => rfl) (1, 0) (sd_at0 hq1 0 (by kernel_rfl)) hx2 rfl (by kernel_rfl)) (by kernel_rfl) (by kernel_rfl) (by kernel_rfl) (qRun 2 [] [(21, .int .i64 (i : Int)), (20, .slice d2.a xs.length d2.cap)] [] (by kernel_rfl) ?_)
    obtain ⟨q3, hq3⟩ := sd_at hd2 (by omega)
    refine qR (u := .pointer (some ⟨q3, i * 1, none⟩)) (runIndexD0 (T := 26) (E := 5) (n := xs.length) (c := d2.cap) (b := q3) (k := 1) (ik := .i64) i hq3 (by kernel_rfl) (by kernel_rfl) (by omega)) (by kernel_rfl) (by kernel_rfl) (by kernel_rfl) (qR (u := .int .u8 ((x2.toNat : Nat) : Int)) (runLoadE1 (f := encByte) (T := 5) (b := q3) (T' := 5) (rest := d2.rest) (v := .int .u8 ((x2.toNat : Nat) : Int)) (fun _ => rfl) (2, 0) (sd_at0 hq3 1 (by kernel_rfl)) hx2 rfl (by kernel_rfl)) (by kernel_rfl) (by kernel_rfl) (by kernel_rfl) (qRun 1 [] [(24, .bool (!(decide (((x2.toNat : Nat) : Int) = ((x2.toNat : Nat) : Int)))))] [] (by kernel_rfl) (qOv (v := .bool false) (v0 := .bool (!(decide (((x2.toNat : Nat) : Int) = ((x2.toNat : Nat) : Int))))) 24 (congrArg Value.bool (by simp)) (by kernel_rfl) (qEnd (sIfF (by kernel_rfl) ?_)))))
    refine sSkip (sEnd (sReg (lRunS 1 [] [(25, .int .i64 (IntKind.i64.wrap ((i : Int) + 1)))] [] (by kernel_rfl) (lOv 25 (iw (x := (i : Int) + 1) (by omega)) (by kernel_rfl) (lRunS 1 [] [(13, .int .i64 ((i : Int) + 1))] [] (by kernel_rfl) ?_)))))
    refine lEnd ?_
    exact sAgain (i + 1) (by omega) (by first | omega | (simp only []; omega)) (by kernel_rfl) rfl
  · refine sExit (by kernel_rfl) (sSeq (rRunS [] [(4, .bool true)] [] (by kernel_rfl) (sRet ?_)))
    exact wRet () (0, 0) [] (.bool true) [.tmp 4] rfl (by kernel_rfl) rfl trivial (fun _ h => h)

theorem c_np0 (W : World) (base : List Blk) (num lim : Int) (h : ¬ goodP num lim) : CP Try.prog W base 8 #[.int .i64 num, .int .i64 lim] [] (.tuple #[.pointer none, .int .i64 34]) := by
  intro F
  refine ctIntro Try.func8 rfl rfl (by kernel_rfl) ?_
  refine sSeq (rRunS [] [(5, .int .i64 0), (4, .pointer none)] [] (by kernel_rfl) (sSeq (sSeq (sReg (lRunS 1 [] [(6, .int .i64 num)] [] (by kernel_rfl) ?_)))))
  refine lCallR [] [0] (c_port W base num) (by kernel_rfl) (by kernel_rfl) (by kernel_rfl) (by kernel_rfl) (by kernel_rfl) (lRunS 2 [] [(9, .bool (!(portB num))), (8, .bool (!(portB num)))] [] (by kernel_rfl) (lShort 3 [] 9 (!(portB num)) 12 true (decide (lim < (1 : Int))) [(11, undef), (10, undef)] [(11, .bool (decide (lim < (1 : Int)))), (10, .int .i64 lim)] [] [] (by kernel_rfl) (by kernel_rfl) (by kernel_rfl) (by kernel_rfl) (lRunS 1 [] [(13, .bool (bif !(portB num) then true else decide (lim < (1 : Int))))] [] (by kernel_rfl) (lShort 3 [] 13 (bif !(portB num) then true else decide (lim < (1 : Int))) 16 true (decide (lim > (100 : Int))) [(15, undef), (14, undef)] [(15, .bool (decide (lim > (100 : Int)))), (14, .int .i64 lim)] [] [] (by kernel_rfl) (by kernel_rfl) (by kernel_rfl) (by kernel_rfl) (lOv (v := .bool true) (v0 := .bool (bif bif !(portB num) then true else decide (lim < (1 : Int)) then true else decide (lim > (100 : Int)))) 16 (ovT (bpO (bpO (bpN (bpR (portB num))) (bpD (lim < (1 : Int)))) (bpD (lim > (100 : Int)))) (np_bad h)) (by kernel_rfl) ?_)))))
  refine lEnd (sIfT (by kernel_rfl) (sSeq (rRunS [] [(5, .int .i64 34), (4, .pointer none)] [] (by kernel_rfl) (sRet ?_))))
  exact wRet () (0, 0) [] (.tuple #[.pointer none, .int .i64 34]) [.tmp 4, .tmp 5] rfl (by kernel_rfl) rfl trivial (fun _ h => h)

theorem c_np1 (W : World) (base : List Blk) (num lim : Int) (h : goodP num lim) : CF Try.prog W base 8 #[.int .i64 num, .int .i64 lim] [] (fun b : Nat => .tuple #[.pointer (some ⟨b, 0, none⟩), .int .i64 0]) (fun b => [[(b, .cells #[.int .i64 num, .int .i64 lim, .slice none 0 0] 94)]]) (fun _ => True) := by
  intro F
  refine ctIntro Try.func8 rfl rfl (by kernel_rfl) ?_
  refine sSeq (rRunS [] [(5, .int .i64 0), (4, .pointer none)] [] (by kernel_rfl) (sSeq (sSeq (sReg (lRunS 1 [] [(6, .int .i64 num)] [] (by kernel_rfl) ?_)))))
  refine lCallR [] [0] (c_port W base num) (by kernel_rfl) (by kernel_rfl) (by kernel_rfl) (by kernel_rfl) (by kernel_rfl) (lRunS 2 [] [(9, .bool (!(portB num))), (8, .bool (!(portB num)))] [] (by kernel_rfl) (lShort 3 [] 9 (!(portB num)) 12 true (decide (lim < (1 : Int))) [(11, undef), (10, undef)] [(11, .bool (decide (lim < (1 : Int)))), (10, .int .i64 lim)] [] [] (by kernel_rfl) (by kernel_rfl) (by kernel_rfl) (by kernel_rfl) (lRunS 1 [] [(13, .bool (bif !(portB num) then true else decide (lim < (1 : Int))))] [] (by kernel_rfl) (lShort 3 [] 13 (bif !(portB num) then true else decide (lim < (1 : Int))) 16 true (decide (lim > (100 : Int))) [(15, undef), (14, undef)] [(15, .bool (decide (lim > (100 : Int)))), (14, .int .i64 lim)] [] [] (by kernel_rfl) (by kernel_rfl) (by kernel_rfl) (by kernel_rfl) (lOv (v := .bool false) (v0 := .bool (bif bif !(portB num) then true else decide (lim < (1 : Int)) then true else decide (lim > (100 : Int)))) 16 (ovF (bpO (bpO (bpN (bpR (portB num))) (bpD (lim < (1 : Int)))) (bpD (lim > (100 : Int)))) (np_good h)) (by kernel_rfl) ?_)))))
  refine lEnd (sIfF (by kernel_rfl) (sSkip (sSeq ?_)))
  refine rRunN [] (fun b1 => [(5, .int .i64 0), (4, .pointer (some ⟨b1, 0, none⟩)), (20, .pointer (some ⟨b1, 0, none⟩)), (19, .agg #[.int .i64 num, .int .i64 lim, .slice none 0 0]), (18, .int .i64 lim), (17, .int .i64 num)]) (fun b1 => []) (fun b1 => .cells #[.int .i64 num, .int .i64 lim, .slice none 0 0] 94) (fun b1 => []) (fun b1 => by kernel_rfl) (fun b1 => ?_)
  refine sRet ?_
  exact wRet b1 (0, 0) [] (.tuple #[.pointer (some ⟨b1, 0, none⟩), .int .i64 0]) [.tmp 4, .tmp 5] rfl (by kernel_rfl) rfl trivial (fun _ h => h.pick [1, 0] (by kernel_rfl) (by kernel_rfl))

theorem c_rnp0 (W : World) (base : List Blk) (num lim : Int) (h : ¬ goodP num lim) : CP Try.prog W base 9 #[.int .i64 num, .int .i64 lim] [] (.tuple #[.pointer none, .int .i64 34]) := by
  intro F
  refine ctIntro Try.func9 rfl rfl (by kernel_rfl) ?_
  refine sSeq (rRunS [] [(5, .int .i64 0), (4, .pointer none)] [] (by kernel_rfl) (sSeq (sSeq (sReg (lRunS 3 [] [(8, .bool (decide (num < (0 : Int)))), (7, .bool (decide (num < (0 : Int)))), (6, .int .i64 num)] [] (by kernel_rfl) ?_)))))
  refine lShort 3 [] 8 (decide (num < (0 : Int))) 11 true (decide (num > (65535 : Int))) [(10, undef), (9, undef)] [(10, .bool (decide (num > (65535 : Int)))), (9, .int .i64 num)] [] [] (by kernel_rfl) (by kernel_rfl) (by kernel_rfl) (by kernel_rfl) (lRunS 1 [] [(12, .bool (bif decide (num < (0 : Int)) then true else decide (num > (65535 : Int))))] [] (by kernel_rfl) (lShort 3 [] 12 (bif decide (num < (0 : Int)) then true else decide (num > (65535 : Int))) 15 true (decide (lim < (1 : Int))) [(14, undef), (13, undef)] [(14, .bool (decide (lim < (1 : Int)))), (13, .int .i64 lim)] [] [] (by kernel_rfl) (by kernel_rfl) (by kernel_rfl) (by kernel_rfl) (lRunS 1 [] [(16, .bool (bif bif decide (num < (0 : Int)) then true else decide (num > (65535 : Int)) then true else decide (lim < (1 : Int))))] [] (by kernel_rfl) (lShort 3 [] 16 (bif bif decide (num < (0 : Int)) then true else decide (num > (65535 : Int)) then true else decide (lim < (1 : Int))) 19 true (decide (lim > (100 : Int))) [(18, undef), (17, undef)] [(18, .bool (decide (lim > (100 : Int)))), (17, .int .i64 lim)] [] [] (by kernel_rfl) (by kernel_rfl) (by kernel_rfl) (by kernel_rfl) (lOv (v := .bool true) (v0 := .bool (bif bif bif decide (num < (0 : Int)) then true else decide (num > (65535 : Int)) then true else decide (lim < (1 : Int)) then true else decide (lim > (100 : Int)))) 19 (ovT (bpO (bpO (bpO (bpD (num < (0 : Int))) (bpD (num > (65535 : Int)))) (bpD (lim < (1 : Int)))) (bpD (lim > (100 : Int)))) (rnp_bad h)) (by kernel_rfl) ?_)))))
  refine lEnd (sIfT (by kernel_rfl) (sSeq (rRunS [] [(5, .int .i64 34), (4, .pointer none)] [] (by kernel_rfl) (sRet ?_))))
  exact wRet () (0, 0) [] (.tuple #[.pointer none, .int .i64 34]) [.tmp 4, .tmp 5] rfl (by kernel_rfl) rfl trivial (fun _ h => h)

theorem c_rnp1 (W : World) (base : List Blk) (num lim : Int) (h : goodP num lim) : CF Try.prog W base 9 #[.int .i64 num, .int .i64 lim] [] (fun b : Nat => .tuple #[.pointer (some ⟨b, 0, none⟩), .int .i64 0]) (fun b => [[(b, .cells #[.int .i64 num, .int .i64 lim, .slice none 0 0] 97)]]) (fun _ => True) := by
  intro F
  refine ctIntro Try.func9 rfl rfl (by kernel_rfl) ?_
  refine sSeq (rRunS [] [(5, .int .i64 0), (4, .pointer none)] [] (by kernel_rfl) (sSeq (sSeq (sReg (lRunS 3 [] [(8, .bool (decide (num < (0 : Int)))), (7, .bool (decide (num < (0 : Int)))), (6, .int .i64 num)] [] (by kernel_rfl) ?_)))))
  refine lShort 3 [] 8 (decide (num < (0 : Int))) 11 true (decide (num > (65535 : Int))) [(10, undef), (9, undef)] [(10, .bool (decide (num > (65535 : Int)))), (9, .int .i64 num)] [] [] (by kernel_rfl) (by kernel_rfl) (by kernel_rfl) (by kernel_rfl) (lRunS 1 [] [(12, .bool (bif decide (num < (0 : Int)) then true else decide (num > (65535 : Int))))] [] (by kernel_rfl) (lShort 3 [] 12 (bif decide (num < (0 : Int)) then true else decide (num > (65535 : Int))) 15 true (decide (lim < (1 : Int))) [(14, undef), (13, undef)] [(14, .bool (decide (lim < (1 : Int)))), (13, .int .i64 lim)] [] [] (by kernel_rfl) (by kernel_rfl) (by kernel_rfl) (by kernel_rfl) (lRunS 1 [] [(16, .bool (bif bif decide (num < (0 : Int)) then true else decide (num > (65535 : Int)) then true else decide (lim < (1 : Int))))] [] (by kernel_rfl) (lShort 3 [] 16 (bif bif decide (num < (0 : Int)) then true else decide (num > (65535 : Int)) then true else decide (lim < (1 : Int))) 19 true (decide (lim > (100 : Int))) [(18, undef), (17, undef)] [(18, .bool (decide (lim > (100 : Int)))), (17, .int .i64 lim)] [] [] (by kernel_rfl) (by kernel_rfl) (by kernel_rfl) (by kernel_rfl) (lOv (v := .bool false) (v0 := .bool (bif bif bif decide (num < (0 : Int)) then true else decide (num > (65535 : Int)) then true else decide (lim < (1 : Int)) then true else decide (lim > (100 : Int)))) 19 (ovF (bpO (bpO (bpO (bpD (num < (0 : Int))) (bpD (num > (65535 : Int)))) (bpD (lim < (1 : Int)))) (bpD (lim > (100 : Int)))) (rnp_good h)) (by kernel_rfl) ?_)))))
  refine lEnd (sIfF (by kernel_rfl) (sSkip (sSeq ?_)))
  refine rRunN [] (fun b1 => [(5, .int .i64 0), (4, .pointer (some ⟨b1, 0, none⟩)), (23, .pointer (some ⟨b1, 0, none⟩)), (22, .agg #[.int .i64 num, .int .i64 lim, .slice none 0 0]), (21, .int .i64 lim), (20, .int .i64 num)]) (fun b1 => []) (fun b1 => .cells #[.int .i64 num, .int .i64 lim, .slice none 0 0] 97) (fun b1 => []) (fun b1 => by kernel_rfl) (fun b1 => ?_)
  refine sRet ?_
  exact wRet b1 (0, 0) [] (.tuple #[.pointer (some ⟨b1, 0, none⟩), .int .i64 0]) [.tmp 4, .tmp 5] rfl (by kernel_rfl) rfl trivial (fun _ h => h.pick [1, 0] (by kernel_rfl) (by kernel_rfl))

theorem c_put (W : World) (base : List Blk) (pb : Nat) (num lim : Int) (se : SE) (q : List Dg) (hse : se.ok 3 q.length) (hq : q.length ≤ 100000) (f t : Int) (da : Option Addr) (dc : Nat) (bs : List UInt8) (hB : BS W encByte da bs) :
    CF Try.prog W base 10 #[.pointer (some ⟨pb, 0, none⟩), .agg #[.int .i64 f, .int .i64 t, .slice da bs.length dc]] [[(pb, .cells #[.int .i64 num, .int .i64 lim, .slice se.a q.length se.cap] 94)], SE.blk 28 encDg se q, QB q] (fun _ : SE × SD => resP (putK num lim q.length f t bs.length)) (fun x => [[(pb, .cells #[.int .i64 num, .int .i64 lim, .slice x.1.a ((putQ (putK num lim q.length f t bs.length) q ⟨f, t, bs, x.2⟩).length) x.1.cap] 94)], SE.blk 28 encDg x.1 (putQ (putK num lim q.length f t bs.length) q ⟨f, t, bs, x.2⟩), QB (putQ (putK num lim q.length f t bs.length) q ⟨f, t, bs, x.2⟩)]) (fun x => x.1.ok 3 (putQ (putK num lim q.length f t bs.length) q ⟨f, t, bs, x.2⟩).length ∧ ((putK num lim q.length f t bs.length) = 4 → x.2.ok 1 bs.length)) := by
  intro F
  refine ctIntro Try.func10 rfl rfl (by kernel_rfl) ?_
  refine sSeq ?_
  refine rRunN [] (fun b1 => [(5, .int .i64 0), (4, .bool false), (3, .pointer (some ⟨b1, 0, none⟩))]) (fun b1 => []) (fun b1 => .cells #[.int .i64 f, .int .i64 t, .slice da bs.length dc] 28) (fun b1 => []) (fun b1 => by kernel_rfl) (fun b1 => ?_)
  refine sSeq (sBlock (sSeq (rRunS [] [(6, .bool false), (8, .bool false), (7, .pointer (some ⟨pb, 0, none⟩))] [] (by kernel_rfl) (sIfF (by kernel_rfl) (sSeq ?_)))))
  refine sReg (lRunS 2 [(1, 5, 0)] [(11, .int .i64 f), (10, .pointer (some ⟨b1, 0, none⟩))] [b1] (by kernel_rfl) ?_)
  refine lCallR [] [0, 1, 2, 3, 4] (c_port W base f) (by kernel_rfl) (by kernel_rfl) (by kernel_rfl) (by kernel_rfl) (by kernel_rfl) (lRunS 2 [] [(14, .bool (!(portB f))), (13, .bool (!(portB f)))] [] (by kernel_rfl) ?_)
  rcases Classical.em (portB f = true) with h1 | h1
  · refine lOv (v := .bool false) (v0 := .bool (!(portB f))) 14 (ovN (bpR (portB f)) h1) (by kernel_rfl) (lRunS 2 [(1, 5, 0)] [(16, .int .i64 t), (15, .pointer (some ⟨b1, 1, none⟩))] [b1] (by kernel_rfl) ?_)
    refine lCallR [] [0, 1, 2, 3, 4] (c_port W base t) (by kernel_rfl) (by kernel_rfl) (by kernel_rfl) (by kernel_rfl) (by kernel_rfl) (lRunS 3 [] [(9, .bool (!(portB t))), (19, .bool (!(portB t))), (18, .bool (!(portB t)))] [] (by kernel_rfl) (lEnd ?_))
    refine sIfPn (bpR (portB t)) (by kernel_rfl) (fun h2 => ?_) (fun h2 => ?_)
    · refine sSeq (rRunS [] [(5, .int .i64 34), (4, .bool false)] [] (by kernel_rfl) (sRet ?_))
      have hK : (putK num lim q.length f t bs.length) = 0 := by unfold putK; rw [if_pos (.inr h2)]
      have hQ : putQ (putK num lim q.length f t bs.length) q ⟨f, t, bs, sdn⟩ = q := putQ_n (by omega) _ _
      refine wfRe (its' := [[(pb, .cells #[.int .i64 num, .int .i64 lim, .slice se.a ((putQ (putK num lim q.length f t bs.length) q ⟨f, t, bs, sdn⟩).length) se.cap] 94)], SE.blk 28 encDg se (putQ (putK num lim q.length f t bs.length) q ⟨f, t, bs, sdn⟩), QB (putQ (putK num lim q.length f t bs.length) q ⟨f, t, bs, sdn⟩), F, [(b1, .cells #[.int .i64 f, .int .i64 t, .slice da bs.length dc] 28)]]) (by rw [hQ] <;> rfl) ?_
      exact wRet (se, sdn) (0, 0) [] (.tuple #[.bool false, .int .i64 34]) [.tmp 4, .tmp 5] rfl (by kernel_rfl) (by rw [hK]; rfl) ⟨by rw [hQ]; exact hse, fun h => absurd (hK.symm.trans h) (by omega)⟩ (fun _ h => h.pick [0, 1, 2, 3] (by kernel_rfl) (by kernel_rfl))
    · have hP : ¬ (¬ (portB f = true) ∨ ¬ (portB t = true)) := fun e => e.elim (fun e => e h1) (fun e => e h2)
      refine sSeq (rRunS [(1, 5, 0)] [(20, .bool (decide ((bs.length : Int) > (4096 : Int)))), (24, .bool (decide ((bs.length : Int) > (4096 : Int)))), (23, .int .i64 (bs.length : Int)), (22, .slice da bs.length dc), (21, .pointer (some ⟨b1, 2, none⟩))] [b1] (by kernel_rfl) ?_)
      refine sIfP (bpD ((bs.length : Int) > (4096 : Int))) (by kernel_rfl) (fun h3 => ?_) (fun h3 => ?_)
      · refine sSeq (rRunS [] [(5, .int .i64 20), (4, .bool false)] [] (by kernel_rfl) (sRet ?_))
        have hK : (putK num lim q.length f t bs.length) = 1 := by unfold putK; rw [if_neg hP, if_pos h3]
        have hQ : putQ (putK num lim q.length f t bs.length) q ⟨f, t, bs, sdn⟩ = q := putQ_n (by omega) _ _
        refine wfRe (its' := [[(pb, .cells #[.int .i64 num, .int .i64 lim, .slice se.a ((putQ (putK num lim q.length f t bs.length) q ⟨f, t, bs, sdn⟩).length) se.cap] 94)], SE.blk 28 encDg se (putQ (putK num lim q.length f t bs.length) q ⟨f, t, bs, sdn⟩), QB (putQ (putK num lim q.length f t bs.length) q ⟨f, t, bs, sdn⟩), F, [(b1, .cells #[.int .i64 f, .int .i64 t, .slice da bs.length dc] 28)]]) (by rw [hQ] <;> rfl) ?_
        exact wRet (se, sdn) (0, 0) [] (.tuple #[.bool false, .int .i64 20]) [.tmp 4, .tmp 5] rfl (by kernel_rfl) (by rw [hK]; rfl) ⟨by rw [hQ]; exact hse, fun h => absurd (hK.symm.trans h) (by omega)⟩ (fun _ h => h.pick [0, 1, 2, 3] (by kernel_rfl) (by kernel_rfl))
      · have hM := h3
        refine sSeq (rQuiet (by kernel_rfl) (by kernel_rfl) (qRun 8 [(1, 5, 0), (5, 1, 0)] [(25, .bool (!(decide (t = num)))), (32, .bool (!(decide (t = num)))), (31, .int .i64 num), (30, .pointer (some ⟨pb, 0, none⟩)), (29, .pointer (some ⟨pb, 0, none⟩)), (28, .pointer (some ⟨pb, 0, none⟩)), (27, .int .i64 t), (26, .pointer (some ⟨b1, 1, none⟩))] [pb, b1] (by kernel_rfl) (qEnd ?_)))
        refine sIfPn (bpD (t = num)) (by kernel_rfl) (fun h4 => ?_) (fun h4 => ?_)
        · refine sSeq (rRunS [] [(5, .int .i64 14), (4, .bool false)] [] (by kernel_rfl) (sRet ?_))
          have hK : (putK num lim q.length f t bs.length) = 2 := by unfold putK; rw [if_neg hP, if_neg hM, if_pos h4]
          have hQ : putQ (putK num lim q.length f t bs.length) q ⟨f, t, bs, sdn⟩ = q := putQ_n (by omega) _ _
          refine wfRe (its' := [[(pb, .cells #[.int .i64 num, .int .i64 lim, .slice se.a ((putQ (putK num lim q.length f t bs.length) q ⟨f, t, bs, sdn⟩).length) se.cap] 94)], SE.blk 28 encDg se (putQ (putK num lim q.length f t bs.length) q ⟨f, t, bs, sdn⟩), QB (putQ (putK num lim q.length f t bs.length) q ⟨f, t, bs, sdn⟩), F, [(b1, .cells #[.int .i64 f, .int .i64 t, .slice da bs.length dc] 28)]]) (by rw [hQ] <;> rfl) ?_
          exact wRet (se, sdn) (0, 0) [] (.tuple #[.bool false, .int .i64 14]) [.tmp 4, .tmp 5] rfl (by kernel_rfl) (by rw [hK]; rfl) ⟨by rw [hQ]; exact hse, fun h => absurd (hK.symm.trans h) (by omega)⟩ (fun _ h => h.pick [0, 1, 2, 3] (by kernel_rfl) (by kernel_rfl))
        · have hT : ¬ ¬ t = num := fun e => e h4
          refine sSeq (rQuiet (by kernel_rfl) (by kernel_rfl) (qRun 11 [(3, 1, 0), (8, 1, 0)] [(33, .bool (decide ((q.length : Int) ≥ lim))), (43, .bool (decide ((q.length : Int) ≥ lim))), (42, .int .i64 lim), (41, .pointer (some ⟨pb, 1, none⟩)), (40, .pointer (some ⟨pb, 0, none⟩)), (39, .pointer (some ⟨pb, 0, none⟩)), (38, .int .i64 (q.length : Int)), (37, .slice se.a q.length se.cap), (36, .pointer (some ⟨pb, 2, none⟩)), (35, .pointer (some ⟨pb, 0, none⟩)), (34, .pointer (some ⟨pb, 0, none⟩))] [pb, pb] (by kernel_rfl) (qEnd ?_)))
          refine sIfP (bpD ((q.length : Int) ≥ lim)) (by kernel_rfl) (fun h5 => ?_) (fun h5 => ?_)
          · refine sSeq (rRunS [] [(5, .int .i64 0), (4, .bool false)] [] (by kernel_rfl) (sRet ?_))
            have hK : (putK num lim q.length f t bs.length) = 3 := by unfold putK; rw [if_neg hP, if_neg hM, if_neg hT, if_pos h5]
            have hQ : putQ (putK num lim q.length f t bs.length) q ⟨f, t, bs, sdn⟩ = q := putQ_n (by omega) _ _
            refine wfRe (its' := [[(pb, .cells #[.int .i64 num, .int .i64 lim, .slice se.a ((putQ (putK num lim q.length f t bs.length) q ⟨f, t, bs, sdn⟩).length) se.cap] 94)], SE.blk 28 encDg se (putQ (putK num lim q.length f t bs.length) q ⟨f, t, bs, sdn⟩), QB (putQ (putK num lim q.length f t bs.length) q ⟨f, t, bs, sdn⟩), F, [(b1, .cells #[.int .i64 f, .int .i64 t, .slice da bs.length dc] 28)]]) (by rw [hQ] <;> rfl) ?_
            exact wRet (se, sdn) (0, 0) [] (.tuple #[.bool false, .int .i64 0]) [.tmp 4, .tmp 5] rfl (by kernel_rfl) (by rw [hK]; rfl) ⟨by rw [hQ]; exact hse, fun h => absurd (hK.symm.trans h) (by omega)⟩ (fun _ h => h.pick [0, 1, 2, 3] (by kernel_rfl) (by kernel_rfl))
          · have hG := h5
            refine sSkip (sEnd (sSeq (sReg (lRunS 2 [(1, 5, 0)] [(45, .slice da bs.length dc), (44, .pointer (some ⟨b1, 2, none⟩))] [b1] (by kernel_rfl) ?_))))
            refine lCallP [] (c_clone W base da dc bs hB (by omega)) (by kernel_rfl) (by kernel_rfl) (by kernel_rfl) ?_
            rintro d1 hd1
            refine lRunU 2 [(1, 6, 0)] [(47, .pointer (some ⟨b1, 2, none⟩))] [(5, [(b1, .cells #[.int .i64 f, .int .i64 t, .slice d1.a bs.length d1.cap] 28)])] [b1] (by kernel_rfl) (lEnd (sSeq ?_))
            refine rHeld (by kernel_rfl) (by kernel_rfl) [SD.blk 5 encByte d1 bs, QB q, F, [(b1, .cells #[.int .i64 f, .int .i64 t, .slice d1.a bs.length d1.cap] 28)]] ?_
            refine hTakes [0, 1, 2, 3, 5] [(5, 4, 0)] [0, 3, 4, 5] [(53, .agg #[.int .i64 f, .int .i64 t, .slice d1.a bs.length d1.cap]), (51, .pointer (some ⟨pb, 2, none⟩)), (50, .pointer (some ⟨pb, 0, none⟩)), (49, .pointer (some ⟨pb, 0, none⟩)), (48, .pointer (some ⟨pb, 0, none⟩))] [b1, b1, b1] (by kernel_rfl) (by kernel_rfl) (by kernel_rfl) (by kernel_rfl) ?_
            refine hAll2 4 6 (by kernel_rfl) ?_ ?_
            · refine hOp 4 [0, 3, 4, 5] (OS.run (2, 0) (.slice se.a q.length se.cap) [SD.blk 5 encByte d1 bs, [(pb, .cells #[.int .i64 num, .int .i64 lim, .slice se.a q.length se.cap] 94)], SE.blk 28 encDg se q, QB q, F, [(b1, .cells #[.int .i64 f, .int .i64 t, .slice d1.a bs.length d1.cap] 28)]] [pb] (by kernel_rfl) (by kernel_rfl)) (by kernel_rfl) (by kernel_rfl) (fun _ => by kernel_rfl) ?_
              rintro ⟨⟩ -
              refine hOS 6 [0, 3, 4, 5] (OS.run1 (0, 0) (fun b2 => .slice (some ⟨b2, 0, none⟩) 1 1) (fun b2 => [SD.blk 5 encByte d1 bs, [(pb, .cells #[.int .i64 num, .int .i64 lim, .slice se.a q.length se.cap] 94)], SE.blk 28 encDg se q, QB q, F, [(b1, .cells #[.int .i64 f, .int .i64 t, .slice d1.a bs.length d1.cap] 28)], [(b2, .cells #[.int .i64 f, .int .i64 t, .slice d1.a bs.length d1.cap] 28)]]) (fun b2 => []) (by kernel_rfl) (fun b2 => by kernel_rfl)) (by kernel_rfl) (by kernel_rfl) (by kernel_rfl) (fun _ => by kernel_rfl) ?_
              rintro b2 -
              refine hOS 7 [0, 3, 4, 5] (OS.x (u := fun d' : SE => .slice d'.a (q.length + 1) d'.cap) (by kernel_rfl) (by kernel_rfl) (runAppendE1 (t := 22) (ty := 22) (b2 := b2) (cs := #[.int .i64 f, .int .i64 t, .slice d1.a bs.length d1.cap]) (T2 := 28) (k := 3) (e := 28) (by_ := 40) (z := [.int .i64 0, .int .i64 0, .slice none 0 0]) (f := encDg) (fun _ => rfl) se q ⟨f, t, bs, d1⟩ q.length 2 6 (by kernel_rfl) (by kernel_rfl) rfl rfl (by kernel_rfl) rfl hse (by kernel_rfl) rfl (by kernel_rfl) (by omega) (by omega)) (fun _ => by kernel_rfl)) (by kernel_rfl) (by kernel_rfl) (by kernel_rfl) (fun _ => by kernel_rfl) ?_
              rintro se2 hse2
              refine hTakes [8, 9] [] [0, 3, 4, 5] [(57, .pointer (some ⟨pb, 2, none⟩)), (56, .pointer (some ⟨pb, 0, none⟩))] [] (by kernel_rfl) (by kernel_rfl) (by kernel_rfl) (by kernel_rfl) ?_
              refine hOS 10 [0, 3, 4, 5] (OS.run (2, 0) undef [SD.blk 5 encByte d1 bs, [(pb, .cells #[.int .i64 num, .int .i64 lim, .slice se2.a (q.length + 1) se2.cap] 94)], SE.blk 28 encDg se2 (q ++ [⟨f, t, bs, d1⟩]), QB q, F, [(b1, .cells #[.int .i64 f, .int .i64 t, .slice d1.a bs.length d1.cap] 28)], [(b2, .cells #[.int .i64 f, .int .i64 t, .slice d1.a bs.length d1.cap] 28)]] [pb] (by kernel_rfl) (by kernel_rfl)) (by kernel_rfl) (by kernel_rfl) (by kernel_rfl) (fun _ => by kernel_rfl) ?_
              rintro ⟨⟩ -
              refine hEnd (by kernel_rfl) (sSeq ?_)
              refine sPick (its' := [[(pb, .cells #[.int .i64 num, .int .i64 lim, .slice se2.a (q.length + 1) se2.cap] 94)], SE.blk 28 encDg se2 (q ++ [⟨f, t, bs, d1⟩]), QB q, SD.blk 5 encByte d1 bs, F]) [1, 2, 3, 0, 4] (by kernel_rfl) (by kernel_rfl) ?_
              have hK : (putK num lim q.length f t bs.length) = 4 := by unfold putK; rw [if_neg hP, if_neg hM, if_neg hT, if_neg hG]
              have hQ : putQ (putK num lim q.length f t bs.length) q ⟨f, t, bs, d1⟩ = q ++ [⟨f, t, bs, d1⟩] := putQ_4 hK _ _
              have hql : (q ++ [(⟨f, t, bs, d1⟩ : Dg)]).length = q.length + 1 := by simp
              refine sRe (its' := [[(pb, .cells #[.int .i64 num, .int .i64 lim, .slice se2.a ((putQ (putK num lim q.length f t bs.length) q ⟨f, t, bs, d1⟩).length) se2.cap] 94)], SE.blk 28 encDg se2 (putQ (putK num lim q.length f t bs.length) q ⟨f, t, bs, d1⟩), QB (putQ (putK num lim q.length f t bs.length) q ⟨f, t, bs, d1⟩), F]) (by rw [hQ, QB_snoc, hql] <;> simp) ?_
              refine rRunS [] [(5, .int .i64 0), (4, .bool true)] [] (by kernel_rfl) (sRet ?_)
              exact wRet (se2, d1) (0, 0) [] (.tuple #[.bool true, .int .i64 0]) [.tmp 4, .tmp 5] rfl (by kernel_rfl) (by rw [hK]; rfl) ⟨by rw [hQ, hql]; exact hse2, fun _ => hd1⟩ (fun _ h => h)
            · refine hOp 6 [0, 3, 4, 5] (OS.run1 (0, 0) (fun b3 => .slice (some ⟨b3, 0, none⟩) 1 1) (fun b3 => [SD.blk 5 encByte d1 bs, [(pb, .cells #[.int .i64 num, .int .i64 lim, .slice se.a q.length se.cap] 94)], SE.blk 28 encDg se q, QB q, F, [(b1, .cells #[.int .i64 f, .int .i64 t, .slice d1.a bs.length d1.cap] 28)], [(b3, .cells #[.int .i64 f, .int .i64 t, .slice d1.a bs.length d1.cap] 28)]]) (fun b3 => []) (by kernel_rfl) (fun b3 => by kernel_rfl)) (by kernel_rfl) (by kernel_rfl) (fun _ => by kernel_rfl) ?_
              rintro b3 -
              refine hOS 4 [0, 3, 4, 5] (OS.run (2, 0) (.slice se.a q.length se.cap) [SD.blk 5 encByte d1 bs, [(pb, .cells #[.int .i64 num, .int .i64 lim, .slice se.a q.length se.cap] 94)], SE.blk 28 encDg se q, QB q, F, [(b1, .cells #[.int .i64 f, .int .i64 t, .slice d1.a bs.length d1.cap] 28)], [(b3, .cells #[.int .i64 f, .int .i64 t, .slice d1.a bs.length d1.cap] 28)]] [pb] (by kernel_rfl) (by kernel_rfl)) (by kernel_rfl) (by kernel_rfl) (by kernel_rfl) (fun _ => by kernel_rfl) ?_
              rintro ⟨⟩ -
              refine hOS 7 [0, 3, 4, 5] (OS.x (u := fun d' : SE => .slice d'.a (q.length + 1) d'.cap) (by kernel_rfl) (by kernel_rfl) (runAppendE1 (t := 22) (ty := 22) (b2 := b3) (cs := #[.int .i64 f, .int .i64 t, .slice d1.a bs.length d1.cap]) (T2 := 28) (k := 3) (e := 28) (by_ := 40) (z := [.int .i64 0, .int .i64 0, .slice none 0 0]) (f := encDg) (fun _ => rfl) se q ⟨f, t, bs, d1⟩ q.length 2 6 (by kernel_rfl) (by kernel_rfl) rfl rfl (by kernel_rfl) rfl hse (by kernel_rfl) rfl (by kernel_rfl) (by omega) (by omega)) (fun _ => by kernel_rfl)) (by kernel_rfl) (by kernel_rfl) (by kernel_rfl) (fun _ => by kernel_rfl) ?_
              rintro se2 hse2
              refine hTakes [8, 9] [] [0, 3, 4, 5] [(57, .pointer (some ⟨pb, 2, none⟩)), (56, .pointer (some ⟨pb, 0, none⟩))] [] (by kernel_rfl) (by kernel_rfl) (by kernel_rfl) (by kernel_rfl) ?_
              refine hOS 10 [0, 3, 4, 5] (OS.run (2, 0) undef [SD.blk 5 encByte d1 bs, [(pb, .cells #[.int .i64 num, .int .i64 lim, .slice se2.a (q.length + 1) se2.cap] 94)], SE.blk 28 encDg se2 (q ++ [⟨f, t, bs, d1⟩]), QB q, F, [(b1, .cells #[.int .i64 f, .int .i64 t, .slice d1.a bs.length d1.cap] 28)], [(b3, .cells #[.int .i64 f, .int .i64 t, .slice d1.a bs.length d1.cap] 28)]] [pb] (by kernel_rfl) (by kernel_rfl)) (by kernel_rfl) (by kernel_rfl) (by kernel_rfl) (fun _ => by kernel_rfl) ?_
              rintro ⟨⟩ -
              refine hEnd (by kernel_rfl) (sSeq ?_)
              refine sPick (its' := [[(pb, .cells #[.int .i64 num, .int .i64 lim, .slice se2.a (q.length + 1) se2.cap] 94)], SE.blk 28 encDg se2 (q ++ [⟨f, t, bs, d1⟩]), QB q, SD.blk 5 encByte d1 bs, F]) [1, 2, 3, 0, 4] (by kernel_rfl) (by kernel_rfl) ?_
              have hK : (putK num lim q.length f t bs.length) = 4 := by unfold putK; rw [if_neg hP, if_neg hM, if_neg hT, if_neg hG]
              have hQ : putQ (putK num lim q.length f t bs.length) q ⟨f, t, bs, d1⟩ = q ++ [⟨f, t, bs, d1⟩] := putQ_4 hK _ _
              have hql : (q ++ [(⟨f, t, bs, d1⟩ : Dg)]).length = q.length + 1 := by simp
              refine sRe (its' := [[(pb, .cells #[.int .i64 num, .int .i64 lim, .slice se2.a ((putQ (putK num lim q.length f t bs.length) q ⟨f, t, bs, d1⟩).length) se2.cap] 94)], SE.blk 28 encDg se2 (putQ (putK num lim q.length f t bs.length) q ⟨f, t, bs, d1⟩), QB (putQ (putK num lim q.length f t bs.length) q ⟨f, t, bs, d1⟩), F]) (by rw [hQ, QB_snoc, hql] <;> simp) ?_
              refine rRunS [] [(5, .int .i64 0), (4, .bool true)] [] (by kernel_rfl) (sRet ?_)
              exact wRet (se2, d1) (0, 0) [] (.tuple #[.bool true, .int .i64 0]) [.tmp 4, .tmp 5] rfl (by kernel_rfl) (by rw [hK]; rfl) ⟨by rw [hQ, hql]; exact hse2, fun _ => hd1⟩ (fun _ h => h)
  · refine lOv (v := .bool true) (v0 := .bool (!(portB f))) 14 (ovNF (bpR (portB f)) h1) (by kernel_rfl) (lRunS 6 [] [(9, .bool true), (19, .bool true), (18, undef), (17, undef), (16, undef), (15, undef)] [] (by kernel_rfl) (lEnd (sIfT (by kernel_rfl) (sSeq (rRunS [] [(5, .int .i64 34), (4, .bool false)] [] (by kernel_rfl) ?_)))))
    refine sRet ?_
    have hK : (putK num lim q.length f t bs.length) = 0 := by unfold putK; rw [if_pos (.inl h1)]
    have hQ : putQ (putK num lim q.length f t bs.length) q ⟨f, t, bs, sdn⟩ = q := putQ_n (by omega) _ _
    refine wfRe (its' := [[(pb, .cells #[.int .i64 num, .int .i64 lim, .slice se.a ((putQ (putK num lim q.length f t bs.length) q ⟨f, t, bs, sdn⟩).length) se.cap] 94)], SE.blk 28 encDg se (putQ (putK num lim q.length f t bs.length) q ⟨f, t, bs, sdn⟩), QB (putQ (putK num lim q.length f t bs.length) q ⟨f, t, bs, sdn⟩), F, [(b1, .cells #[.int .i64 f, .int .i64 t, .slice da bs.length dc] 28)]]) (by rw [hQ] <;> rfl) ?_
    exact wRet (se, sdn) (0, 0) [] (.tuple #[.bool false, .int .i64 34]) [.tmp 4, .tmp 5] rfl (by kernel_rfl) (by rw [hK]; rfl) ⟨by rw [hQ]; exact hse, fun h => absurd (hK.symm.trans h) (by omega)⟩ (fun _ h => h.pick [0, 1, 2, 3] (by kernel_rfl) (by kernel_rfl))

end Go.Proofs.Ytcobccdeocihbaa
