/- The walk of GuardianRecovers: for all journals, requests and places it returns true. -/
import Derived.Test.YtljfjiaiachbfaaDoorProg
import Derived.Test.YtljfjiaiachbfaaDoorM4
import Derived.Test.YtljfjiaiachbfaaDoorA7
import Derived.Test.YtljfjiaiachbfaaDoorB3
import Derived.Test.YtljfjiaiachbfaaDoorB4
import Derived.Test.YtljfjiaiachbfaaDoorK2
namespace Go.Proofs.YtljfjiaiachbfaaDoor
open Go.Sx Go.Sx.Gd
set_option maxRecDepth 100000
set_option linter.unusedSimpArgs false
set_option linter.unusedVariables false
def encSl (x : Option Addr × Nat × Nat) : List Value := [.slice x.1 x.2.1 x.2.2]
theorem one_encSl {x : Option Addr × Nat × Nat} {u : Value} (h : u ∈ encSl x) : oneC u = true := by simp only [encSl, List.mem_singleton] at h; subst h; rfl
def posA (at_ : Int) (n : Nat) : Nat := (IntKind.u64.wrap at_).toNat % n
theorem posA_lt {at_ : Int} {n : Nat} (h : 0 < n) : posA at_ n < n := Nat.mod_lt _ h
theorem posA_eq {at_ : Int} {n : Nat} : (IntKind.u64.wrap at_).tmod (n : Int) = ((posA at_ n : Nat) : Int) := by
  have h0 : 0 ≤ IntKind.u64.wrap at_ := by rw [wrap_u64]; exact Int.emod_nonneg _ (by decide)
  obtain ⟨k, hk⟩ := Int.eq_ofNat_of_zero_le h0
  unfold posA
  rw [hk, Int.toNat_natCast, Int.tmod_eq_emod_of_nonneg (by omega)]; rfl
theorem u8val (e : Int) : ∃ y : UInt8, Value.int .u8 (IntKind.u8.wrap e) = .int .u8 ((y.toNat : Nat) : Int) := by
  have h0 : 0 ≤ IntKind.u8.wrap e := by rw [wrap_u8]; exact Int.emod_nonneg _ (by decide)
  have h1 : IntKind.u8.wrap e < 256 := by rw [wrap_u8]; exact Int.emod_lt_of_pos _ (by decide)
  refine ⟨UInt8.ofNat (IntKind.u8.wrap e).toNat, congrArg (Value.int .u8) ?_⟩
  rw [UInt8.toNat_ofNat']; omega
theorem SrcA.ofB2 {W : World} {D : List Blk} {a : Option Addr} {xs : List UInt8} (h : BS W encByte a xs) : SrcA W D a xs := by
  rcases h with h | ⟨b, o, ha, h⟩
  · exact .inl h
  · refine .inr ⟨b, o, ha, fun w hw j x hx => ?_⟩
    refine Sat.cellB hw (h j _ ?_)
    rw [flatMap_one (f := encByte) (g := Extern.Stop.cell) (fun _ => rfl), List.getElem?_map, hx]; rfl

variable {gT : TypeId} {gF : Nat × Nat}
theorem c_recovers (W : World) (a al : Option Addr) (m c ac : Nat) (js : List UInt8) (l : List Req) (at_ : Int) (hJ : BS W encByte a js) (hjm : js.length = m) (hmc0 : m ≤ c) (hB : BS W encReq al l) (hq : ∀ x ∈ l, x.seq ≤ 9223372036854775807) (hn : l.length ≤ 9223372036854775807) :
    CP Tryd.prog W (gB gT gF) 4 #[.slice a m c, .slice al l.length ac, .int .i64 at_] [] (.bool true) := by
  intro F
  refine ctIntro Tryd.func4 rfl rfl (by kernel_rfl) ?_
  refine sSeq (rRunS [] [(6, .bool false)] [] (by kernel_rfl) (sSeq (sSeq (sReg (lRunS 1 [] [(17, .slice al l.length ac)] [] (by kernel_rfl) ?_)))))
  refine lCallR [] [0] (c_short W (gB gT gF) al ac l hB hn) (by kernel_rfl) (by kernel_rfl) (by kernel_rfl) (by kernel_rfl) (by kernel_rfl) (lRunS 2 [] [(20, .bool (!(shortB l))), (19, .bool (!(shortB l)))] [] (by kernel_rfl) (lShort 4 [] 20 (!(shortB l)) 24 true (decide ((m : Int) > (3000 : Int))) [(23, undef), (22, undef), (21, undef)] [(23, .bool (decide ((m : Int) > (3000 : Int)))), (22, .int .i64 (m : Int)), (21, .slice a m c)] [] [] (by kernel_rfl) (by kernel_rfl) (by kernel_rfl) (by kernel_rfl) (lRunS 1 [] [(25, .bool (bif !(shortB l) then true else decide ((m : Int) > (3000 : Int))))] [] (by kernel_rfl) ?_)))
  rcases Classical.em ((¬ ((shortB l) = true)) ∨ ((m : Int) > (3000 : Int))) with h1 | h1
  · refine lOv (v := .bool true) (v0 := .bool (bif !(shortB l) then true else decide ((m : Int) > (3000 : Int)))) 25 (ovT (bpO (bpN (bpR (shortB l))) (bpD ((m : Int) > (3000 : Int)))) h1) (by kernel_rfl) (lRunS 3 [] [(28, .bool true), (27, undef), (26, undef)] [] (by kernel_rfl) (lEnd (sIfT (by kernel_rfl) (sSeq (sReg ?_)))))
    refine lCallR [] [0] (c_awake W) (by kernel_rfl) (by kernel_rfl) (by kernel_rfl) (by kernel_rfl) (by kernel_rfl) (lRunS 1 [] [(6, .bool true)] [] (by kernel_rfl) (lEnd (sRet ?_)))
    exact wRet () (0, 0) [] (.bool true) [.tmp 6] rfl (by kernel_rfl) rfl trivial (fun _ h => h)
  · refine lOv (v := .bool false) (v0 := .bool (bif !(shortB l) then true else decide ((m : Int) > (3000 : Int)))) 25 (ovF (bpO (bpN (bpR (shortB l))) (bpD ((m : Int) > (3000 : Int)))) h1) (by kernel_rfl) ?_
    refine lCallR [] [0] (c_awake W) (by kernel_rfl) (by kernel_rfl) (by kernel_rfl) (by kernel_rfl) (by kernel_rfl) (lRunS 2 [] [(28, .bool false), (27, .bool false)] [] (by kernel_rfl) (lEnd (sIfF (by kernel_rfl) (sSkip (sSeq ?_)))))
    refine sReg ?_
    refine lCallP [] (c_new9 W (gB gT gF)) (by kernel_rfl) (by kernel_rfl) (by kernel_rfl) ?_
    rintro rb -
    refine lRunS 1 [] [(7, .pointer (some ⟨rb, 0, none⟩))] [] (by kernel_rfl) (lEnd (sSeq (sSeq (rRunS [] [(33, .int .i64 0), (32, .int .i64 (l.length : Int)), (31, .slice al l.length ac)] [] (by kernel_rfl) (sBlock ?_)))))
    have hsb : shortB l = true := Classical.byContradiction fun h => h1 (.inl h)
    have hm3 : ¬ ((m : Int) > (3000 : Int)) := fun h => h1 (.inr h)
    have hl60 := shortB_len hsb
    refine sRe (its' := [[(rb, .cells #[.slice sdn.a ((runS (l.take 0)).acc.length) sdn.cap, .slice sdn.a ((runS (l.take 0)).cli.length) sdn.cap, .slice sdn.a ((runS (l.take 0)).jr.length) sdn.cap, .int .i64 (((runS (l.take 0)).cnt : Nat) : Int)] 86)], SD.blk 94 encAcc sdn ((runS (l.take 0)).acc), SD.blk 92 encCli sdn ((runS (l.take 0)).cli), SD.blk 5 encByte sdn ((runS (l.take 0)).jr), F]) rfl ?_
    refine sLoop (fun (x_ : Nat × SD × SD × SD) => match x_ with | (i, ea, ec, ej) => [(33, .int .i64 (i : Int)), (32, .int .i64 (l.length : Int)), (31, .slice al l.length ac), (7, .pointer (some ⟨rb, 0, none⟩)), (2, .int .i64 at_), (1, .slice al l.length ac), (0, .slice a m c)]) (fun (x_ : Nat × SD × SD × SD) => match x_ with | (i, ea, ec, ej) => [[(rb, .cells #[.slice ea.a ((runS (l.take i)).acc.length) ea.cap, .slice ec.a ((runS (l.take i)).cli.length) ec.cap, .slice ej.a ((runS (l.take i)).jr.length) ej.cap, .int .i64 (((runS (l.take i)).cnt : Nat) : Int)] 86)], SD.blk 94 encAcc ea ((runS (l.take i)).acc), SD.blk 92 encCli ec ((runS (l.take i)).cli), SD.blk 5 encByte ej ((runS (l.take i)).jr), F]) (fun (x_ : Nat × SD × SD × SD) => match x_ with | (i, ea, ec, ej) => i ≤ l.length ∧ ea.ok 2 (runS (l.take i)).acc.length ∧ ec.ok 5 (runS (l.take i)).cli.length ∧ ej.ok 1 (runS (l.take i)).jr.length) (fun (x_ : Nat × SD × SD × SD) => match x_ with | (i, ea, ec, ej) => l.length - i) (0, sdn, sdn, sdn) ⟨by omega, SD.ok_nil 2, SD.ok_nil 5, SD.ok_nil 1⟩ (by kernel_rfl) rfl ?_
    rintro ⟨i, ea, ec, ej⟩ ⟨hi, hea, hec, hej⟩
    refine sSeq (rRunS [] [(34, .bool (decide ((i : Int) < (l.length : Int))))] [] (by kernel_rfl) (sSeq ?_))
    refine sIfP (bpD ((i : Int) < (l.length : Int))) (by kernel_rfl) (fun h2 => ?_) (fun h2 => ?_)
    · refine sSkip (sSeq (sBlock (sSeq (sReg ?_))))
      obtain ⟨b1, ob1, hab1, hcb1⟩ := BS.some hB (by omega)
      refine lR (u := .pointer (some ⟨b1, ob1 + i * 4, none⟩)) (runIndexD (T := 22) (E := 30) (n := l.length) (c := ac) (b := b1) (o := ob1) (k := 4) (ik := .i64) i hab1 (by kernel_rfl) (by kernel_rfl) (by omega)) (by kernel_rfl) (by kernel_rfl) (by kernel_rfl) ?_
      obtain ⟨x2, hx2⟩ : ∃ x, l[i]? = some x := ⟨_, List.getElem?_eq_getElem (by (try simp only [List.length_set, List.length_append, List.length_replicate, List.length_cons, List.length_nil]); omega)⟩
      refine lR (u := .agg #[.int .i64 x2.client, .int .i64 x2.seq, .string x2.key, .int .i64 x2.amount]) (runLoadBS (f := encReq) (T := 30) (k := 4) (fun _ => rfl) hcb1 hx2 (by kernel_rfl) (by kernel_rfl)) (by kernel_rfl) (by kernel_rfl) (by kernel_rfl) ?_
      refine lRunN 2 [(1, 6, 0)] (fun b3 => [(9, .pointer (some ⟨b3, 0, none⟩))]) (fun b3 => []) (fun b3 => .cells #[.int .i64 x2.client, .int .i64 x2.seq, .string x2.key, .int .i64 x2.amount] 30) (fun b3 => [b3, b3, b3, b3]) (fun b3 => by kernel_rfl) (fun b3 => ?_)
      refine lEnd (sReg (lRunS 2 [(1, 6, 0)] [(38, .agg #[.int .i64 x2.client, .int .i64 x2.seq, .string x2.key, .int .i64 x2.amount]), (37, .pointer (some ⟨rb, 0, none⟩))] [b3, b3, b3, b3] (by kernel_rfl) ?_))
      have hxq := hq x2 (List.mem_of_getElem? hx2)
      have hso := runS_ok (l.take i)
      refine lCallP [0, 1, 2, 3] (c_rdo W (gB gT gF) rb ea ec ej (runS (l.take i)) x2 hxq hso hea hec hej) (by kernel_rfl) (by kernel_rfl) (by kernel_rfl) ?_
      rintro ⟨ea2, ec2, ej2⟩ ⟨hea2, hec2, hej2⟩
      refine lEnd (sEnd (sReg (lRunS 1 [] [(40, .int .i64 (IntKind.i64.wrap ((i : Int) + 1)))] [] (by kernel_rfl) (lOv 40 (iw (x := (i : Int) + 1) (by omega)) (by kernel_rfl) (lRunS 1 [] [(33, .int .i64 ((i : Int) + 1))] [] (by kernel_rfl) ?_)))))
      refine lEnd ?_
      have hrs := runS_succ hx2
      refine sRe (its' := [[(rb, .cells #[.slice ea2.a ((runS (l.take (i + 1))).acc.length) ea2.cap, .slice ec2.a ((runS (l.take (i + 1))).cli.length) ec2.cap, .slice ej2.a ((runS (l.take (i + 1))).jr.length) ej2.cap, .int .i64 (((runS (l.take (i + 1))).cnt : Nat) : Int)] 86)], SD.blk 94 encAcc ea2 ((runS (l.take (i + 1))).acc), SD.blk 92 encCli ec2 ((runS (l.take (i + 1))).cli), SD.blk 5 encByte ej2 ((runS (l.take (i + 1))).jr), F, [(b3, .cells #[.int .i64 x2.client, .int .i64 x2.seq, .string x2.key, .int .i64 x2.amount] 30)]]) (by rw [hrs] <;> rfl) ?_
      exact sPick [0, 1, 2, 3, 4] (by kernel_rfl) (by kernel_rfl) (sAgain (i + 1, ea2, ec2, ej2) (hrs ▸ ⟨by omega, hea2, hec2, hej2⟩ : i + 1 ≤ l.length ∧ ea2.ok 2 (runS (l.take (i + 1))).acc.length ∧ ec2.ok 5 (runS (l.take (i + 1))).cli.length ∧ ej2.ok 1 (runS (l.take (i + 1))).jr.length) (by first | omega | (simp only []; omega)) (by kernel_rfl) rfl)
    · refine sExit (by kernel_rfl) (sSeq (sReg (lRunS 1 [] [(41, .pointer (some ⟨rb, 0, none⟩))] [] (by kernel_rfl) ?_)))
      have hjl := (runS_ok (l.take i)).jr
      have hjc := (runS_ok (l.take i)).cnt
      refine lCallP [0, 1, 2, 3] (c_rjournal W (gB gT gF) rb ea ec ej (runS (l.take i)) (runS_ok _) hea hec hej) (by kernel_rfl) (by kernel_rfl) (by kernel_rfl) ?_
      rintro d2 hd2
      refine lRunS 1 [] [(10, .slice d2.a ((runS (l.take i)).jr.length) d2.cap)] [] (by kernel_rfl) (lEnd (sSeq (sSeq (rRunS [] [(45, .bool (decide ((((runS (l.take i)).jr.length : Nat) : Int) > (0 : Int)))), (44, .int .i64 (((runS (l.take i)).jr.length : Nat) : Int)), (43, .slice d2.a ((runS (l.take i)).jr.length) d2.cap)] [] (by kernel_rfl) ?_))))
      refine sIfP (bpD ((((runS (l.take i)).jr.length : Nat) : Int) > (0 : Int))) (by kernel_rfl) (fun h3 => ?_) (fun h3 => ?_)
      · have hpos : posA at_ (runS (l.take i)).jr.length < (runS (l.take i)).jr.length := posA_lt (by omega)
        refine rHeld (by kernel_rfl) (by kernel_rfl) [[(rb, .cells #[.slice ea.a ((runS (l.take i)).acc.length) ea.cap, .slice ec.a ((runS (l.take i)).cli.length) ec.cap, .slice ej.a ((runS (l.take i)).jr.length) ej.cap, .int .i64 (((runS (l.take i)).cnt : Nat) : Int)] 86)], SD.blk 94 encAcc ea ((runS (l.take i)).acc), SD.blk 92 encCli ec ((runS (l.take i)).cli), SD.blk 5 encByte ej ((runS (l.take i)).jr), F] ?_
        refine hTakes [0, 1, 2, 3, 4, 5] [] [0, 1, 2, 3, 5] [(51, .int .u64 (IntKind.u64.wrap (((runS (l.take i)).jr.length : Nat) : Int))), (50, .int .i64 (((runS (l.take i)).jr.length : Nat) : Int)), (49, .slice d2.a ((runS (l.take i)).jr.length) d2.cap), (48, .int .u64 (IntKind.u64.wrap at_)), (47, .int .i64 at_), (46, .slice d2.a ((runS (l.take i)).jr.length) d2.cap)] [] (by kernel_rfl) (by kernel_rfl) (by kernel_rfl) (by kernel_rfl) (hOv (v := .int .u64 (((runS (l.take i)).jr.length : Nat) : Int)) (v0 := .int .u64 (IntKind.u64.wrap (((runS (l.take i)).jr.length : Nat) : Int))) 51 (congrArg (Value.int .u64) (by rw [wrap_u64]; omega)) (by kernel_rfl) (hR (u := .int .u64 ((IntKind.u64.wrap at_).tmod (((runS (l.take i)).jr.length : Nat) : Int))) 6 [0, 1, 2, 3, 5] (runRem (T := 43) (o1 := (.tmp 48)) (o2 := (.tmp 51)) (k := .u64) (x := (IntKind.u64.wrap at_)) (y := (((runS (l.take i)).jr.length : Nat) : Int)) (by omega)) (by kernel_rfl) (by kernel_rfl) (by kernel_rfl) (by kernel_rfl) (by kernel_rfl) (by kernel_rfl) (by kernel_rfl) rfl (hOv (v := .int .u64 ((posA at_ (runS (l.take i)).jr.length : Nat) : Int)) (v0 := .int .u64 ((IntKind.u64.wrap at_).tmod (((runS (l.take i)).jr.length : Nat) : Int))) 52 (congrArg (Value.int .u64) posA_eq) (by kernel_rfl) (hTakes [7] [] [0, 1, 2, 3, 5] [(53, .int .i64 (IntKind.i64.wrap ((posA at_ (runS (l.take i)).jr.length : Nat) : Int)))] [] (by kernel_rfl) (by kernel_rfl) (by kernel_rfl) (by kernel_rfl) (hOv (v := .int .i64 ((posA at_ (runS (l.take i)).jr.length : Nat) : Int)) (v0 := .int .i64 (IntKind.i64.wrap ((posA at_ (runS (l.take i)).jr.length : Nat) : Int))) 53 (congrArg (Value.int .i64) (wrap_i64 (by omega))) (by kernel_rfl) ?_)))))
        obtain ⟨q4, hq4⟩ := sd_at hd2 (by omega)
        refine hR (u := .pointer (some ⟨q4, (posA at_ (runS (l.take i)).jr.length) * 1, none⟩)) 8 [0, 1, 2, 3, 5] (runIndexD0 (T := 40) (E := 5) (n := ((runS (l.take i)).jr.length)) (c := d2.cap) (b := q4) (k := 1) (ik := .i64) (posA at_ (runS (l.take i)).jr.length) hq4 (by kernel_rfl) (by kernel_rfl) (by omega)) (by kernel_rfl) (by kernel_rfl) (by kernel_rfl) (by kernel_rfl) (by kernel_rfl) (by kernel_rfl) (by kernel_rfl) rfl (hTakes [10, 11, 12, 13, 14] [] [0, 1, 2, 3, 5] [(60, .int .u64 (IntKind.u64.wrap (((runS (l.take i)).jr.length : Nat) : Int))), (59, .int .i64 (((runS (l.take i)).jr.length : Nat) : Int)), (58, .slice d2.a ((runS (l.take i)).jr.length) d2.cap), (57, .int .u64 (IntKind.u64.wrap at_)), (56, .int .i64 at_)] [] (by kernel_rfl) (by kernel_rfl) (by kernel_rfl) (by kernel_rfl) (hOv (v := .int .u64 (((runS (l.take i)).jr.length : Nat) : Int)) (v0 := .int .u64 (IntKind.u64.wrap (((runS (l.take i)).jr.length : Nat) : Int))) 60 (congrArg (Value.int .u64) (by rw [wrap_u64]; omega)) (by kernel_rfl) (hR (u := .int .u64 (IntKind.u64.wrap ((IntKind.u64.wrap at_).tdiv (((runS (l.take i)).jr.length : Nat) : Int)))) 15 [0, 1, 2, 3, 5] (runQuo (T := 43) (o1 := (.tmp 57)) (o2 := (.tmp 60)) (k := .u64) (x := (IntKind.u64.wrap at_)) (y := (((runS (l.take i)).jr.length : Nat) : Int)) (by omega)) (by kernel_rfl) (by kernel_rfl) (by kernel_rfl) (by kernel_rfl) (by kernel_rfl) (by kernel_rfl) (by kernel_rfl) rfl (hTakes [16, 17, 18] [] [0, 1, 2, 3, 5] [(64, .int .u8 (IntKind.u8.wrap (IntKind.u64.wrap (1 + ((IntKind.u64.wrap ((IntKind.u64.wrap at_).tdiv (((runS (l.take i)).jr.length : Nat) : Int))).tmod 255))))), (63, .int .u64 (IntKind.u64.wrap (1 + ((IntKind.u64.wrap ((IntKind.u64.wrap at_).tdiv (((runS (l.take i)).jr.length : Nat) : Int))).tmod 255)))), (62, .int .u64 ((IntKind.u64.wrap ((IntKind.u64.wrap at_).tdiv (((runS (l.take i)).jr.length : Nat) : Int))).tmod 255))] [] (by kernel_rfl) (by kernel_rfl) (by kernel_rfl) (by kernel_rfl) ?_))))
        obtain ⟨x5, hx5⟩ : ∃ x, ((runS (l.take i)).jr)[posA at_ (runS (l.take i)).jr.length]? = some x := ⟨_, List.getElem?_eq_getElem (by (try simp only [List.length_set, List.length_append, List.length_replicate, List.length_cons, List.length_nil]); omega)⟩
        refine hOS 9 [0, 1, 2, 3, 5] (OS.x (u := fun _ => .int .u8 ((x5.toNat : Nat) : Int)) (by kernel_rfl) (by kernel_rfl) (RunR.x (runLoadE1 (f := encByte) (T := 5) (b := q4) (T' := 5) (rest := d2.rest) (v := .int .u8 ((x5.toNat : Nat) : Int)) (fun _ => rfl) (5, 0) (sd_at0 hq4 4 (by kernel_rfl)) hx5 rfl (by kernel_rfl))) (fun _ => by kernel_rfl)) (by kernel_rfl) (by kernel_rfl) (by kernel_rfl) (fun _ => by kernel_rfl) ?_
        rintro ⟨⟩ -
        obtain ⟨yb, hyb⟩ := u8val ((BitVec.ofInt IntKind.u8.bits ((x5.toNat : Nat) : Int) ^^^ (BitVec.ofInt IntKind.u8.bits (IntKind.u8.wrap (IntKind.u64.wrap (1 + ((IntKind.u64.wrap ((IntKind.u64.wrap at_).tdiv (((runS (l.take i)).jr.length : Nat) : Int))).tmod 255)))))).toNat : Int)
        refine hTakes [19] [] [0, 1, 2, 3, 5] [(65, .int .u8 (IntKind.u8.wrap ((BitVec.ofInt IntKind.u8.bits ((x5.toNat : Nat) : Int) ^^^ (BitVec.ofInt IntKind.u8.bits (IntKind.u8.wrap (IntKind.u64.wrap (1 + ((IntKind.u64.wrap ((IntKind.u64.wrap at_).tdiv (((runS (l.take i)).jr.length : Nat) : Int))).tmod 255)))))).toNat : Int)))] [] (by kernel_rfl) (by kernel_rfl) (by kernel_rfl) (by kernel_rfl) (hOv (v := .int .u8 ((yb.toNat : Nat) : Int)) (v0 := .int .u8 (IntKind.u8.wrap ((BitVec.ofInt IntKind.u8.bits ((x5.toNat : Nat) : Int) ^^^ (BitVec.ofInt IntKind.u8.bits (IntKind.u8.wrap (IntKind.u64.wrap (1 + ((IntKind.u64.wrap ((IntKind.u64.wrap at_).tdiv (((runS (l.take i)).jr.length : Nat) : Int))).tmod 255)))))).toNat : Int))) 65 hyb (by kernel_rfl) (hR (u := .pointer (some ⟨q4, (posA at_ (runS (l.take i)).jr.length) * 1, none⟩)) 20 [0, 1, 2, 3, 5] (runIndexD0 (T := 40) (E := 5) (n := ((runS (l.take i)).jr.length)) (c := d2.cap) (b := q4) (k := 1) (ik := .i64) (posA at_ (runS (l.take i)).jr.length) hq4 (by kernel_rfl) (by kernel_rfl) (by omega)) (by kernel_rfl) (by kernel_rfl) (by kernel_rfl) (by kernel_rfl) (by kernel_rfl) (by kernel_rfl) (by kernel_rfl) rfl ?_))
        refine hOS 21 [0, 1, 2, 3, 5] (OS.x (u := fun _ => undef) (by kernel_rfl) (by kernel_rfl) (runStoreD1 (f := encByte) (i := 4) (T := 5) (T' := 5) (v := .int .u8 ((yb.toNat : Nat) : Int)) (fun _ => rfl) yb hq4 (by kernel_rfl) hx5 rfl rfl (by kernel_rfl)) (fun _ => by kernel_rfl)) (by kernel_rfl) (by kernel_rfl) (by kernel_rfl) (fun _ => by kernel_rfl) ?_
        rintro ⟨⟩ -
        refine hEnd (by kernel_rfl) (sSeq (sSeq ?_))
        obtain ⟨B, hBe⟩ : ∃ B : List UInt8, B = ((runS (l.take i)).jr).set (posA at_ (runS (l.take i)).jr.length) yb := ⟨_, rfl⟩
        have hBn : B.length = (runS (l.take i)).jr.length := by rw [hBe] <;> first | rfl | exact List.length_set ..
        refine sRe (its' := [[(rb, .cells #[.slice ea.a ((runS (l.take i)).acc.length) ea.cap, .slice ec.a ((runS (l.take i)).cli.length) ec.cap, .slice ej.a ((runS (l.take i)).jr.length) ej.cap, .int .i64 (((runS (l.take i)).cnt : Nat) : Int)] 86)], SD.blk 94 encAcc ea ((runS (l.take i)).acc), SD.blk 92 encCli ec ((runS (l.take i)).cli), SD.blk 5 encByte ej ((runS (l.take i)).jr), SD.blk 5 encByte d2 B, F]) (by rw [hBe] <;> rfl) ?_
        refine rRunN [] (fun b6 => [(71, .int .i64 0), (70, .int .i64 2), (69, .slice (some ⟨b6, 0, none⟩) 2 2), (68, .slice d2.a ((runS (l.take i)).jr.length) d2.cap), (67, .slice a m c)]) (fun b6 => []) (fun b6 => .cells #[.slice a m c, .slice d2.a ((runS (l.take i)).jr.length) d2.cap] 40) (fun b6 => []) (fun b6 => by kernel_rfl) (fun b6 => ?_)
        refine sBlock ?_
        obtain ⟨ts, hts⟩ : ∃ ts : List (Option Addr × Nat × Nat), ts = [(a, m, c), (d2.a, (runS (l.take i)).jr.length, d2.cap)] := ⟨_, rfl⟩
        have htl : ts.length = 2 := by rw [hts]; rfl
        have hT : ∀ x ∈ ts, ∃ bs, SrcA W (SD.blk 5 encByte d2 B) x.1 bs ∧ bs.length = x.2.1 ∧ x.2.1 ≤ x.2.2 ∧ x.2.1 ≤ 1000000 := by
          rw [hts]; intro x hx; simp only [List.mem_cons, List.mem_nil_iff, or_false] at hx
          rcases hx with rfl | rfl
          · exact ⟨js, SrcA.ofB2 hJ, hjm, hmc0, by simp only []; omega⟩
          · exact ⟨B, SrcA.ofD hBn hd2, hBn, sd_cap hd2, by simp only []; omega⟩
        refine sRe (its' := [[(rb, .cells #[.slice ea.a ((runS (l.take i)).acc.length) ea.cap, .slice ec.a ((runS (l.take i)).cli.length) ec.cap, .slice ej.a ((runS (l.take i)).jr.length) ej.cap, .int .i64 (((runS (l.take i)).cnt : Nat) : Int)] 86)], SD.blk 94 encAcc ea ((runS (l.take i)).acc), SD.blk 92 encCli ec ((runS (l.take i)).cli), SD.blk 5 encByte ej ((runS (l.take i)).jr), SD.blk 5 encByte d2 B, F, [(b6, .cells (arr encSl ts []) 40)]]) (by rw [hts] <;> rfl) ?_
        refine sPick (its' := [[(b6, .cells (arr encSl ts []) 40)], SD.blk 5 encByte d2 B, F]) [6, 4, 5] (by kernel_rfl) (by kernel_rfl) ?_
        refine sLoop (fun (k : Nat) => [(71, .int .i64 (k : Int)), (70, .int .i64 2), (69, .slice (some ⟨b6, 0, none⟩) 2 2)]) (fun (k : Nat) => [[(b6, .cells (arr encSl ts []) 40)], SD.blk 5 encByte d2 B, F]) (fun (k : Nat) => k ≤ 2) (fun (k : Nat) => 2 - k) 0 (by omega) (by kernel_rfl) rfl ?_
        rintro k hk
        refine sSeq (rRunS [] [(72, .bool (decide ((k : Int) < (2 : Int))))] [] (by kernel_rfl) (sSeq ?_))
        refine sIfP (bpD ((k : Int) < (2 : Int))) (by kernel_rfl) (fun h4 => ?_) (fun h4 => ?_)
        · refine sSkip (sSeq (sBlock (sSeq (sReg (lR (u := .pointer (some ⟨b6, k * 1, none⟩)) (runIndex0 (T := 44) (E := 40) (n := 2) (c := 2) (b := b6) (k := 1) (ik := .i64) k (by kernel_rfl) (by kernel_rfl) (by omega)) (by kernel_rfl) (by kernel_rfl) (by kernel_rfl) ?_)))))
          obtain ⟨x7, hx7⟩ : ∃ x, ts[k]? = some x := ⟨_, List.getElem?_eq_getElem (by (try simp only [List.length_set, List.length_append, List.length_replicate, List.length_cons, List.length_nil]); omega)⟩
          refine lR (u := .slice x7.1 x7.2.1 x7.2.2) (runLoadE1 (f := encSl) (T := 40) (b := b6) (T' := 40) (rest := []) (v := .slice x7.1 x7.2.1 x7.2.2) (fun _ => rfl) (1, 0) (by kernel_rfl) hx7 rfl (by kernel_rfl)) (by kernel_rfl) (by kernel_rfl) (by kernel_rfl) ?_
          obtain ⟨bs, hA, hm, hmc, hmx⟩ := hT x7 (List.mem_of_getElem? hx7)
          have hrl := (recM_jr bs).2
          refine lRunS 1 [] [(12, .slice x7.1 x7.2.1 x7.2.2)] [] (by kernel_rfl) (lEnd (sSeq (sReg (lRunS 1 [] [(76, .slice x7.1 x7.2.1 x7.2.2)] [] (by kernel_rfl) ?_))))
          refine lCallP [1] (c_clone W (gB gT gF) x7.1 x7.2.1 x7.2.2 bs hA hm hmx) (by kernel_rfl) (by kernel_rfl) (by kernel_rfl) ?_
          rintro d3 hd3
          refine lCallP [1] (c_recover W (gB gT gF) d3.a x7.2.1 d3.cap bs (SrcA.ofD hm hd3) hm (sd_cap hd3) hmx) (by kernel_rfl) (by kernel_rfl) (by kernel_rfl) ?_
          rintro ⟨sb, am, cm, dj⟩ hj
          refine lRunS 5 [] [(14, .int .i64 (((recM bs).2 : Nat) : Int)), (13, .pointer (some ⟨sb, 0, none⟩)), (80, .int .i64 (((recM bs).2 : Nat) : Int)), (79, .pointer (some ⟨sb, 0, none⟩)), (75, .tuple #[.pointer (some ⟨sb, 0, none⟩), .int .i64 (((recM bs).2 : Nat) : Int)])] [] (by kernel_rfl) (lEnd (sSeq (sReg (lRunS 1 [] [(82, .slice x7.1 x7.2.1 x7.2.2)] [] (by kernel_rfl) ?_))))
          refine lCallP [5] (c_rrecover W (gB gT gF) x7.1 x7.2.1 x7.2.2 bs hA hm hmc hmx) (by kernel_rfl) (by kernel_rfl) (by kernel_rfl) ?_
          rintro ⟨rb2, fa, fc, fj⟩ ⟨hfa, hfc, hfj⟩
          refine lRunS 5 [] [(16, .int .i64 (((recM bs).2 : Nat) : Int)), (15, .pointer (some ⟨rb2, 0, none⟩)), (85, .int .i64 (((recM bs).2 : Nat) : Int)), (84, .pointer (some ⟨rb2, 0, none⟩)), (81, .tuple #[.pointer (some ⟨rb2, 0, none⟩), .int .i64 (((recM bs).2 : Nat) : Int)])] [] (by kernel_rfl) (lEnd (sSeq ?_))
          refine rHeld (by kernel_rfl) (by kernel_rfl) [[(rb2, .cells #[.slice fa.a (((recM bs).1).acc.length) fa.cap, .slice fc.a (((recM bs).1).cli.length) fc.cap, .slice fj.a (((recM bs).1).jr.length) fj.cap, .int .i64 ((((recM bs).1).cnt : Nat) : Int)] 86)], SD.blk 94 encAcc fa (((recM bs).1).acc), SD.blk 92 encCli fc (((recM bs).1).cli), SD.blk 5 encByte fj (((recM bs).1).jr), SD.blk 5 encByte d2 B, [(sb, .cells #[.map (some am), .map (some cm), .slice dj.a (((recM bs).1).jr.length) dj.cap, .int .i64 ((((recM bs).1).cnt : Nat) : Int)] 82)], [(am, .map (mkM Value.string (alM ((recM bs).1).acc 0)) (((recM bs).1).acc.length))], [(cm, .map (mkM (Value.int .i64) (clM ((recM bs).1).cli 0)) (((recM bs).1).cli.length))], SD.blk 5 encByte dj (((recM bs).1).jr), SD.blk 5 encByte d3 bs, [(b6, .cells (arr encSl ts []) 40)], F] ?_
          refine hTakes [0, 1, 2] [] [0, 1, 2, 3, 4, 5, 6, 7, 8, 9, 10, 11] [(88, .bool (!(decide ((((recM bs).2 : Nat) : Int) = (((recM bs).2 : Nat) : Int))))), (87, .int .i64 (((recM bs).2 : Nat) : Int)), (86, .int .i64 (((recM bs).2 : Nat) : Int))] [] (by kernel_rfl) (by kernel_rfl) (by kernel_rfl) (by kernel_rfl) (hOv (v := .bool false) (v0 := .bool (!(decide ((((recM bs).2 : Nat) : Int) = (((recM bs).2 : Nat) : Int))))) 88 (congrArg Value.bool (by simp)) (by kernel_rfl) (hTakes [3, 4, 5, 6, 7, 8, 10] [] [0, 1, 2, 3, 4, 5, 6, 7, 8, 9, 10, 11] [(96, .pointer (some ⟨rb2, 0, none⟩)), (94, .pointer (some ⟨sb, 0, none⟩)), (93, .bool false), (92, .bool false), (91, .bool false), (90, .pointer (some ⟨sb, 0, none⟩)), (89, .bool false)] [] (by kernel_rfl) (by kernel_rfl) (by kernel_rfl) (by kernel_rfl) ?_))
          refine hOS 9 [5, 6, 7, 8, 9, 0, 1, 2, 3, 10, 11, 12] (OS.callP [5, 6, 7, 8] (c_journal W (gB gT gF) sb am cm dj (recM bs).1 (recM_ok bs) hj) (by kernel_rfl) (by kernel_rfl) (by kernel_rfl)) (by kernel_rfl) (by kernel_rfl) (by kernel_rfl) (fun _ => by kernel_rfl) ?_
          rintro d4 hd4
          refine hOS 11 [0, 1, 2, 3, 10, 5, 6, 7, 8, 11, 12, 13] (OS.callP [5, 6, 7, 8] (c_rjournal W (gB gT gF) rb2 fa fc fj (recM bs).1 (recM_ok bs) hfa hfc hfj) (by kernel_rfl) (by kernel_rfl) (by kernel_rfl)) (by kernel_rfl) (by kernel_rfl) (by kernel_rfl) (fun _ => by kernel_rfl) ?_
          rintro d5 hd5
          refine hOS 12 [0, 1, 2, 3, 10, 5, 6, 7, 8, 11, 12, 13] (OS.call (by kernel_rfl) (CP.ct (c_bequal W (gB gT gF) d4 d5 (recM bs).1.jr (recM bs).1.jr hd4 hd5) [9, 4] [2, 3, 4, 5, 1, 6, 7, 8, 9, 0, 10, 11, 12, 13] (by kernel_rfl) (by kernel_rfl) (by kernel_rfl) (by kernel_rfl))) (by kernel_rfl) (by kernel_rfl) (by kernel_rfl) (fun _ => by kernel_rfl) ?_
          rintro ⟨⟩ -
          refine hOv (v := .bool true) (v0 := .bool (decide ((recM bs).1.jr = (recM bs).1.jr))) 98 (congrArg Value.bool (by simp)) (by kernel_rfl) (hTakes [13, 14, 15, 16, 18, 19] [] [0, 1, 2, 3, 10, 5, 6, 7, 8, 11, 12, 13] [(105, .int .i64 (((recM bs).2 : Nat) : Int)), (104, .slice x7.1 x7.2.1 x7.2.2), (102, .pointer (some ⟨sb, 0, none⟩)), (101, .bool false), (100, .bool false), (99, .bool false)] [] (by kernel_rfl) (by kernel_rfl) (by kernel_rfl) (by kernel_rfl) (hR (u := .slice x7.1 ((recM bs).2) x7.2.2) 20 [0, 1, 2, 3, 10, 5, 6, 7, 8, 11, 12, 13] (runSliceHi (T := 40) (E := 5) (n := x7.2.1) (c := x7.2.2) (a := x7.1) (ik := .i64) ((recM bs).2) (by kernel_rfl) (by kernel_rfl) (by omega)) (by kernel_rfl) (by kernel_rfl) (by kernel_rfl) (by kernel_rfl) (by kernel_rfl) (by kernel_rfl) (by kernel_rfl) rfl ?_))
          refine hOS 17 [5, 6, 7, 8, 11, 0, 1, 2, 3, 12, 13, 14] (OS.callP [5, 6, 7, 8] (c_journal W (gB gT gF) sb am cm dj (recM bs).1 (recM_ok bs) hj) (by kernel_rfl) (by kernel_rfl) (by kernel_rfl)) (by kernel_rfl) (by kernel_rfl) (by kernel_rfl) (fun _ => by kernel_rfl) ?_
          rintro d6 hd6
          refine hOS 21 [5, 6, 7, 8, 11, 0, 1, 2, 3, 12, 13, 14] (OS.call (by kernel_rfl) (CP.ct (c_bequalS W (gB gT gF) d6 x7.1 (recM bs).1.jr.length (recM bs).2 x7.2.2 (recM bs).1.jr (bs.take (recM bs).2) rfl hd6 (hA.take _) (by rw [List.length_take]; try omega)) [4, 11] [2, 3, 4, 5, 0, 6, 7, 8, 9, 10, 11, 1, 12, 13, 14] (by kernel_rfl) (by kernel_rfl) (by kernel_rfl) (by kernel_rfl))) (by kernel_rfl) (by kernel_rfl) (by kernel_rfl) (fun _ => by kernel_rfl) ?_
          rintro ⟨⟩ -
          refine hOv (v := .bool true) (v0 := .bool (decide ((recM bs).1.jr = bs.take (recM bs).2))) 107 (congrArg Value.bool (decide_eq_true (recM_jr bs).1)) (by kernel_rfl) (hTakes [22, 23] [] [5, 6, 7, 8, 11, 0, 1, 2, 3, 12, 13, 14] [(109, .bool false), (108, .bool false)] [] (by kernel_rfl) (by kernel_rfl) (by kernel_rfl) (by kernel_rfl) (hEnd (by kernel_rfl) (sIfF (by kernel_rfl) (sSkip (sEnd ?_)))))
          refine sReg (lRunS 1 [] [(110, .int .i64 (IntKind.i64.wrap ((k : Int) + 1)))] [] (by kernel_rfl) (lOv 110 (iw (x := (k : Int) + 1) (by omega)) (by kernel_rfl) (lRunS 1 [] [(71, .int .i64 ((k : Int) + 1))] [] (by kernel_rfl) (lEnd ?_))))
          exact sPick [13, 11, 14] (by kernel_rfl) (by kernel_rfl) (sAgain (k + 1) (by omega) (by first | omega | (simp only []; omega)) (by kernel_rfl) rfl)
        · refine sExit (by kernel_rfl) (sSeq (rRunS [] [(6, .bool true)] [] (by kernel_rfl) (sRet ?_)))
          exact wRet () (0, 0) [] (.bool true) [.tmp 6] rfl (by kernel_rfl) rfl trivial (fun _ h => h.pick [2] (by kernel_rfl) (by kernel_rfl))
      · refine sSkip (sSeq (sSeq ?_))
        obtain ⟨B, hBe⟩ : ∃ B : List UInt8, B = (runS (l.take i)).jr := ⟨_, rfl⟩
        have hBn : B.length = (runS (l.take i)).jr.length := by rw [hBe] <;> first | rfl | exact List.length_set ..
        refine sRe (its' := [[(rb, .cells #[.slice ea.a ((runS (l.take i)).acc.length) ea.cap, .slice ec.a ((runS (l.take i)).cli.length) ec.cap, .slice ej.a ((runS (l.take i)).jr.length) ej.cap, .int .i64 (((runS (l.take i)).cnt : Nat) : Int)] 86)], SD.blk 94 encAcc ea ((runS (l.take i)).acc), SD.blk 92 encCli ec ((runS (l.take i)).cli), SD.blk 5 encByte ej ((runS (l.take i)).jr), SD.blk 5 encByte d2 B, F]) (by rw [hBe] <;> rfl) ?_
        refine rRunN [] (fun b8 => [(71, .int .i64 0), (70, .int .i64 2), (69, .slice (some ⟨b8, 0, none⟩) 2 2), (68, .slice d2.a ((runS (l.take i)).jr.length) d2.cap), (67, .slice a m c)]) (fun b8 => []) (fun b8 => .cells #[.slice a m c, .slice d2.a ((runS (l.take i)).jr.length) d2.cap] 40) (fun b8 => []) (fun b8 => by kernel_rfl) (fun b8 => ?_)
        refine sBlock ?_
        obtain ⟨ts, hts⟩ : ∃ ts : List (Option Addr × Nat × Nat), ts = [(a, m, c), (d2.a, (runS (l.take i)).jr.length, d2.cap)] := ⟨_, rfl⟩
        have htl : ts.length = 2 := by rw [hts]; rfl
        have hT : ∀ x ∈ ts, ∃ bs, SrcA W (SD.blk 5 encByte d2 B) x.1 bs ∧ bs.length = x.2.1 ∧ x.2.1 ≤ x.2.2 ∧ x.2.1 ≤ 1000000 := by
          rw [hts]; intro x hx; simp only [List.mem_cons, List.mem_nil_iff, or_false] at hx
          rcases hx with rfl | rfl
          · exact ⟨js, SrcA.ofB2 hJ, hjm, hmc0, by simp only []; omega⟩
          · exact ⟨B, SrcA.ofD hBn hd2, hBn, sd_cap hd2, by simp only []; omega⟩
        refine sRe (its' := [[(rb, .cells #[.slice ea.a ((runS (l.take i)).acc.length) ea.cap, .slice ec.a ((runS (l.take i)).cli.length) ec.cap, .slice ej.a ((runS (l.take i)).jr.length) ej.cap, .int .i64 (((runS (l.take i)).cnt : Nat) : Int)] 86)], SD.blk 94 encAcc ea ((runS (l.take i)).acc), SD.blk 92 encCli ec ((runS (l.take i)).cli), SD.blk 5 encByte ej ((runS (l.take i)).jr), SD.blk 5 encByte d2 B, F, [(b8, .cells (arr encSl ts []) 40)]]) (by rw [hts] <;> rfl) ?_
        refine sPick (its' := [[(b8, .cells (arr encSl ts []) 40)], SD.blk 5 encByte d2 B, F]) [6, 4, 5] (by kernel_rfl) (by kernel_rfl) ?_
        refine sLoop (fun (k : Nat) => [(71, .int .i64 (k : Int)), (70, .int .i64 2), (69, .slice (some ⟨b8, 0, none⟩) 2 2)]) (fun (k : Nat) => [[(b8, .cells (arr encSl ts []) 40)], SD.blk 5 encByte d2 B, F]) (fun (k : Nat) => k ≤ 2) (fun (k : Nat) => 2 - k) 0 (by omega) (by kernel_rfl) rfl ?_
        rintro k hk
        refine sSeq (rRunS [] [(72, .bool (decide ((k : Int) < (2 : Int))))] [] (by kernel_rfl) (sSeq ?_))
        refine sIfP (bpD ((k : Int) < (2 : Int))) (by kernel_rfl) (fun h5 => ?_) (fun h5 => ?_)
        · refine sSkip (sSeq (sBlock (sSeq (sReg (lR (u := .pointer (some ⟨b8, k * 1, none⟩)) (runIndex0 (T := 44) (E := 40) (n := 2) (c := 2) (b := b8) (k := 1) (ik := .i64) k (by kernel_rfl) (by kernel_rfl) (by omega)) (by kernel_rfl) (by kernel_rfl) (by kernel_rfl) ?_)))))
          obtain ⟨x9, hx9⟩ : ∃ x, ts[k]? = some x := ⟨_, List.getElem?_eq_getElem (by (try simp only [List.length_set, List.length_append, List.length_replicate, List.length_cons, List.length_nil]); omega)⟩
          refine lR (u := .slice x9.1 x9.2.1 x9.2.2) (runLoadE1 (f := encSl) (T := 40) (b := b8) (T' := 40) (rest := []) (v := .slice x9.1 x9.2.1 x9.2.2) (fun _ => rfl) (1, 0) (by kernel_rfl) hx9 rfl (by kernel_rfl)) (by kernel_rfl) (by kernel_rfl) (by kernel_rfl) ?_
          obtain ⟨bs, hA, hm, hmc, hmx⟩ := hT x9 (List.mem_of_getElem? hx9)
          have hrl := (recM_jr bs).2
          refine lRunS 1 [] [(12, .slice x9.1 x9.2.1 x9.2.2)] [] (by kernel_rfl) (lEnd (sSeq (sReg (lRunS 1 [] [(76, .slice x9.1 x9.2.1 x9.2.2)] [] (by kernel_rfl) ?_))))
          refine lCallP [1] (c_clone W (gB gT gF) x9.1 x9.2.1 x9.2.2 bs hA hm hmx) (by kernel_rfl) (by kernel_rfl) (by kernel_rfl) ?_
          rintro d3 hd3
          refine lCallP [1] (c_recover W (gB gT gF) d3.a x9.2.1 d3.cap bs (SrcA.ofD hm hd3) hm (sd_cap hd3) hmx) (by kernel_rfl) (by kernel_rfl) (by kernel_rfl) ?_
          rintro ⟨sb, am, cm, dj⟩ hj
          refine lRunS 5 [] [(14, .int .i64 (((recM bs).2 : Nat) : Int)), (13, .pointer (some ⟨sb, 0, none⟩)), (80, .int .i64 (((recM bs).2 : Nat) : Int)), (79, .pointer (some ⟨sb, 0, none⟩)), (75, .tuple #[.pointer (some ⟨sb, 0, none⟩), .int .i64 (((recM bs).2 : Nat) : Int)])] [] (by kernel_rfl) (lEnd (sSeq (sReg (lRunS 1 [] [(82, .slice x9.1 x9.2.1 x9.2.2)] [] (by kernel_rfl) ?_))))
          refine lCallP [5] (c_rrecover W (gB gT gF) x9.1 x9.2.1 x9.2.2 bs hA hm hmc hmx) (by kernel_rfl) (by kernel_rfl) (by kernel_rfl) ?_
          rintro ⟨rb2, fa, fc, fj⟩ ⟨hfa, hfc, hfj⟩
          refine lRunS 5 [] [(16, .int .i64 (((recM bs).2 : Nat) : Int)), (15, .pointer (some ⟨rb2, 0, none⟩)), (85, .int .i64 (((recM bs).2 : Nat) : Int)), (84, .pointer (some ⟨rb2, 0, none⟩)), (81, .tuple #[.pointer (some ⟨rb2, 0, none⟩), .int .i64 (((recM bs).2 : Nat) : Int)])] [] (by kernel_rfl) (lEnd (sSeq ?_))
          refine rHeld (by kernel_rfl) (by kernel_rfl) [[(rb2, .cells #[.slice fa.a (((recM bs).1).acc.length) fa.cap, .slice fc.a (((recM bs).1).cli.length) fc.cap, .slice fj.a (((recM bs).1).jr.length) fj.cap, .int .i64 ((((recM bs).1).cnt : Nat) : Int)] 86)], SD.blk 94 encAcc fa (((recM bs).1).acc), SD.blk 92 encCli fc (((recM bs).1).cli), SD.blk 5 encByte fj (((recM bs).1).jr), SD.blk 5 encByte d2 B, [(sb, .cells #[.map (some am), .map (some cm), .slice dj.a (((recM bs).1).jr.length) dj.cap, .int .i64 ((((recM bs).1).cnt : Nat) : Int)] 82)], [(am, .map (mkM Value.string (alM ((recM bs).1).acc 0)) (((recM bs).1).acc.length))], [(cm, .map (mkM (Value.int .i64) (clM ((recM bs).1).cli 0)) (((recM bs).1).cli.length))], SD.blk 5 encByte dj (((recM bs).1).jr), SD.blk 5 encByte d3 bs, [(b8, .cells (arr encSl ts []) 40)], F] ?_
          refine hTakes [0, 1, 2] [] [0, 1, 2, 3, 4, 5, 6, 7, 8, 9, 10, 11] [(88, .bool (!(decide ((((recM bs).2 : Nat) : Int) = (((recM bs).2 : Nat) : Int))))), (87, .int .i64 (((recM bs).2 : Nat) : Int)), (86, .int .i64 (((recM bs).2 : Nat) : Int))] [] (by kernel_rfl) (by kernel_rfl) (by kernel_rfl) (by kernel_rfl) (hOv (v := .bool false) (v0 := .bool (!(decide ((((recM bs).2 : Nat) : Int) = (((recM bs).2 : Nat) : Int))))) 88 (congrArg Value.bool (by simp)) (by kernel_rfl) (hTakes [3, 4, 5, 6, 7, 8, 10] [] [0, 1, 2, 3, 4, 5, 6, 7, 8, 9, 10, 11] [(96, .pointer (some ⟨rb2, 0, none⟩)), (94, .pointer (some ⟨sb, 0, none⟩)), (93, .bool false), (92, .bool false), (91, .bool false), (90, .pointer (some ⟨sb, 0, none⟩)), (89, .bool false)] [] (by kernel_rfl) (by kernel_rfl) (by kernel_rfl) (by kernel_rfl) ?_))
          refine hOS 9 [5, 6, 7, 8, 9, 0, 1, 2, 3, 10, 11, 12] (OS.callP [5, 6, 7, 8] (c_journal W (gB gT gF) sb am cm dj (recM bs).1 (recM_ok bs) hj) (by kernel_rfl) (by kernel_rfl) (by kernel_rfl)) (by kernel_rfl) (by kernel_rfl) (by kernel_rfl) (fun _ => by kernel_rfl) ?_
          rintro d4 hd4
          refine hOS 11 [0, 1, 2, 3, 10, 5, 6, 7, 8, 11, 12, 13] (OS.callP [5, 6, 7, 8] (c_rjournal W (gB gT gF) rb2 fa fc fj (recM bs).1 (recM_ok bs) hfa hfc hfj) (by kernel_rfl) (by kernel_rfl) (by kernel_rfl)) (by kernel_rfl) (by kernel_rfl) (by kernel_rfl) (fun _ => by kernel_rfl) ?_
          rintro d5 hd5
          refine hOS 12 [0, 1, 2, 3, 10, 5, 6, 7, 8, 11, 12, 13] (OS.call (by kernel_rfl) (CP.ct (c_bequal W (gB gT gF) d4 d5 (recM bs).1.jr (recM bs).1.jr hd4 hd5) [9, 4] [2, 3, 4, 5, 1, 6, 7, 8, 9, 0, 10, 11, 12, 13] (by kernel_rfl) (by kernel_rfl) (by kernel_rfl) (by kernel_rfl))) (by kernel_rfl) (by kernel_rfl) (by kernel_rfl) (fun _ => by kernel_rfl) ?_
          rintro ⟨⟩ -
          refine hOv (v := .bool true) (v0 := .bool (decide ((recM bs).1.jr = (recM bs).1.jr))) 98 (congrArg Value.bool (by simp)) (by kernel_rfl) (hTakes [13, 14, 15, 16, 18, 19] [] [0, 1, 2, 3, 10, 5, 6, 7, 8, 11, 12, 13] [(105, .int .i64 (((recM bs).2 : Nat) : Int)), (104, .slice x9.1 x9.2.1 x9.2.2), (102, .pointer (some ⟨sb, 0, none⟩)), (101, .bool false), (100, .bool false), (99, .bool false)] [] (by kernel_rfl) (by kernel_rfl) (by kernel_rfl) (by kernel_rfl) (hR (u := .slice x9.1 ((recM bs).2) x9.2.2) 20 [0, 1, 2, 3, 10, 5, 6, 7, 8, 11, 12, 13] (runSliceHi (T := 40) (E := 5) (n := x9.2.1) (c := x9.2.2) (a := x9.1) (ik := .i64) ((recM bs).2) (by kernel_rfl) (by kernel_rfl) (by omega)) (by kernel_rfl) (by kernel_rfl) (by kernel_rfl) (by kernel_rfl) (by kernel_rfl) (by kernel_rfl) (by kernel_rfl) rfl ?_))
          refine hOS 17 [5, 6, 7, 8, 11, 0, 1, 2, 3, 12, 13, 14] (OS.callP [5, 6, 7, 8] (c_journal W (gB gT gF) sb am cm dj (recM bs).1 (recM_ok bs) hj) (by kernel_rfl) (by kernel_rfl) (by kernel_rfl)) (by kernel_rfl) (by kernel_rfl) (by kernel_rfl) (fun _ => by kernel_rfl) ?_
          rintro d6 hd6
          refine hOS 21 [5, 6, 7, 8, 11, 0, 1, 2, 3, 12, 13, 14] (OS.call (by kernel_rfl) (CP.ct (c_bequalS W (gB gT gF) d6 x9.1 (recM bs).1.jr.length (recM bs).2 x9.2.2 (recM bs).1.jr (bs.take (recM bs).2) rfl hd6 (hA.take _) (by rw [List.length_take]; try omega)) [4, 11] [2, 3, 4, 5, 0, 6, 7, 8, 9, 10, 11, 1, 12, 13, 14] (by kernel_rfl) (by kernel_rfl) (by kernel_rfl) (by kernel_rfl))) (by kernel_rfl) (by kernel_rfl) (by kernel_rfl) (fun _ => by kernel_rfl) ?_
          rintro ⟨⟩ -
          refine hOv (v := .bool true) (v0 := .bool (decide ((recM bs).1.jr = bs.take (recM bs).2))) 107 (congrArg Value.bool (decide_eq_true (recM_jr bs).1)) (by kernel_rfl) (hTakes [22, 23] [] [5, 6, 7, 8, 11, 0, 1, 2, 3, 12, 13, 14] [(109, .bool false), (108, .bool false)] [] (by kernel_rfl) (by kernel_rfl) (by kernel_rfl) (by kernel_rfl) (hEnd (by kernel_rfl) (sIfF (by kernel_rfl) (sSkip (sEnd ?_)))))
          refine sReg (lRunS 1 [] [(110, .int .i64 (IntKind.i64.wrap ((k : Int) + 1)))] [] (by kernel_rfl) (lOv 110 (iw (x := (k : Int) + 1) (by omega)) (by kernel_rfl) (lRunS 1 [] [(71, .int .i64 ((k : Int) + 1))] [] (by kernel_rfl) (lEnd ?_))))
          exact sPick [13, 11, 14] (by kernel_rfl) (by kernel_rfl) (sAgain (k + 1) (by omega) (by first | omega | (simp only []; omega)) (by kernel_rfl) rfl)
        · refine sExit (by kernel_rfl) (sSeq (rRunS [] [(6, .bool true)] [] (by kernel_rfl) (sRet ?_)))
          exact wRet () (0, 0) [] (.bool true) [.tmp 6] rfl (by kernel_rfl) rfl trivial (fun _ h => h.pick [2] (by kernel_rfl) (by kernel_rfl))

end Go.Proofs.YtljfjiaiachbfaaDoor
