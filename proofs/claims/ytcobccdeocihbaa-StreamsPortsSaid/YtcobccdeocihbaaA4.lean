/- The walk of StreamsPorts: for all calls it returns true. -/
import Derived.Test.YtcobccdeocihbaaProg
import Derived.Test.YtcobccdeocihbaaSl
import Derived.Test.YtcobccdeocihbaaA2
import Derived.Test.YtcobccdeocihbaaA3
import Derived.Test.YtcobccdeocihbaaK2
namespace Go.Proofs.Ytcobccdeocihbaa
open Go.Sx
set_option maxRecDepth 100000
set_option linter.unusedSimpArgs false
set_option linter.unusedVariables false
structure DgA where
  frm : Int
  to : Int
  da : Option Addr
  dc : Nat
  data : List UInt8
def encDgA (x : DgA) : List Value := [.int .i64 x.frm, .int .i64 x.to, .slice x.da x.data.length x.dc]
theorem one_encDgA {x : DgA} {u : Value} (h : u ∈ encDgA x) : oneC u = true := by
  simp only [encDgA, List.mem_cons, List.mem_nil_iff, or_false] at h
  rcases h with rfl | rfl | rfl <;> rfl
def encBool (x : Bool) : List Value := [.bool x]
theorem one_encBool {x : Bool} {u : Value} (h : u ∈ encBool x) : oneC u = true := by simp only [encBool, List.mem_singleton] at h; subst h; rfl
def putB : Nat → Bool | 0 => false | 1 => false | 2 => false | 3 => false | _ => true
def putE : Nat → Int | 0 => 34 | 1 => 20 | 2 => 14 | 3 => 0 | _ => 0
theorem resP_eq (k : Nat) : resP k = .tuple #[.bool (putB k), .int .i64 (putE k)] := by
  rcases k with _ | _ | _ | _ | k <;> rfl
def QOk4 (q : List Dg) : Prop := ∀ x ∈ q, x.d.ok 1 x.data.length ∧ x.data.length ≤ 4096
theorem putK_4 {num lim : Int} {n : Nat} {f t : Int} {m : Nat} (h : putK num lim n f t m = 4) : m ≤ 4096 ∧ (n : Int) < lim := by
  unfold putK at h
  split at h; · cases h
  split at h; · cases h
  split at h; · cases h
  split at h; · cases h
  constructor <;> omega
theorem QOk4.put {q : List Dg} (h : QOk4 q) {num lim : Int} {n : Nat} {f t : Int} {bs : List UInt8} {d : SD} (hd : putK num lim n f t bs.length = 4 → d.ok 1 bs.length) : QOk4 (putQ (putK num lim n f t bs.length) q ⟨f, t, bs, d⟩) := by
  unfold putQ
  split
  · rename_i hk
    intro y hy
    rcases List.mem_append.1 hy with hy | hy
    · exact h y hy
    · simp only [List.mem_singleton] at hy; subst hy; exact ⟨hd hk, (putK_4 hk).1⟩
  · exact h
theorem putQ_core {q r : List Dg} (h : q.map core = r.map core) (k : Nat) (f t : Int) (bs : List UInt8) (d d' : SD) : (putQ k q ⟨f, t, bs, d⟩).map core = (putQ k r ⟨f, t, bs, d'⟩).map core := by
  unfold putQ
  split
  · simp [h, core]
  · exact h
theorem putQ_len {num lim : Int} {q : List Dg} {f t : Int} {m : Nat} {x : Dg} (h : (q.length : Int) ≤ lim) : ((putQ (putK num lim q.length f t m) q x).length : Int) ≤ lim ∧ (putQ (putK num lim q.length f t m) q x).length ≤ q.length + 1 := by
  unfold putQ
  split
  · rename_i hk
    have := (putK_4 hk).2
    rw [List.length_append, List.length_singleton]; omega
  · omega
theorem core_nil {r : List Dg} (h : ([] : List Dg).map core = r.map core) : r = [] := by cases r with
  | nil => rfl
  | cons x r => simp at h
theorem core_cons {y : Dg} {q r : List Dg} (h : (y :: q).map core = r.map core) : ∃ zd r3, r = (⟨y.frm, y.to, y.data, zd⟩ : Dg) :: r3 ∧ q.map core = r3.map core := by
  cases r with
  | nil => simp at h
  | cons z r3 =>
    simp only [List.map_cons, List.cons.injEq, core, Prod.mk.injEq] at h
    obtain ⟨⟨h1, h2, h3⟩, h4⟩ := h
    obtain ⟨zf, zt, zb, zd⟩ := z
    simp only [] at h1 h2 h3
    subst h1 h2 h3
    exact ⟨zd, r3, rfl, h4⟩

theorem c_equal0 (W : World) (base : List Blk) : CP Try.prog W base 14 #[.slice none 0 0, .slice none 0 0] [] (.bool true) := by
  intro F
  refine ctIntro Try.func14 rfl rfl (by kernel_rfl) ?_
  refine sSeq (rRunS [] [(4, .bool false)] [] (by kernel_rfl) (sSeq (sSeq (rRunS [] [(10, .bool false), (9, .int .i64 0), (8, .slice none 0 0), (7, .int .i64 0), (6, .slice none 0 0)] [] (by kernel_rfl) (sIfF (by kernel_rfl) ?_)))))
  refine sSkip (sSeq (sSeq (rRunS [] [(13, .int .i64 0), (12, .int .i64 0), (11, .slice none 0 0)] [] (by kernel_rfl) (sBlock ?_))))
  refine sLoop (fun (_ : Unit) => [(13, .int .i64 0), (12, .int .i64 0), (0, .slice none 0 0)]) (fun (_ : Unit) => [F]) (fun (_ : Unit) => True) (fun (_ : Unit) => 0) () trivial (by kernel_rfl) rfl ?_
  rintro - -
  refine sSeq (rRunS [] [(14, .bool false)] [] (by kernel_rfl) (sSeq (sIfF (by kernel_rfl) (sExit (by kernel_rfl) (sSeq ?_)))))
  refine rRunS [] [(4, .bool true)] [] (by kernel_rfl) (sRet ?_)
  exact wRet () (0, 0) [] (.bool true) [.tmp 4] rfl (by kernel_rfl) rfl trivial (fun _ h => h)

theorem c_ports (W : World) (num lim : Int) (pa ta : Option Addr) (pc tc : Nat) (l : List DgA) (tk : List Bool) (hB : BS W encDgA pa l) (hT : BS W encBool ta tk) (hn : l.length ≤ 9223372036854775807) (hk : tk.length ≤ 9223372036854775807) (hD : ∀ x ∈ l, BS W encByte x.da x.data) :
    CP Try.prog W [] 3 #[.agg #[.int .i64 num, .int .i64 lim, .slice pa l.length pc, .slice ta tk.length tc]] [] (.bool true) := by
  intro F
  refine ctIntro Try.func3 rfl rfl (by kernel_rfl) ?_
  refine sSeq ?_
  refine rRunN [] (fun b1 => [(2, .bool false), (1, .pointer (some ⟨b1, 0, none⟩))]) (fun b1 => []) (fun b1 => .cells #[.int .i64 num, .int .i64 lim, .slice pa l.length pc, .slice ta tk.length tc] 25) (fun b1 => []) (fun b1 => by kernel_rfl) (fun b1 => ?_)
  refine sSeq (rQuiet (by kernel_rfl) (by kernel_rfl) (qRun 12 [(1, 2, 0), (3, 2, 0), (5, 2, 0), (7, 2, 0)] [(6, .slice ta tk.length tc), (5, .slice pa l.length pc), (4, .int .i64 lim), (3, .int .i64 num), (30, .slice ta tk.length tc), (29, .pointer (some ⟨b1, 3, none⟩)), (28, .slice pa l.length pc), (27, .pointer (some ⟨b1, 2, none⟩)), (26, .int .i64 lim), (25, .pointer (some ⟨b1, 1, none⟩)), (24, .int .i64 num), (23, .pointer (some ⟨b1, 0, none⟩))] [b1, b1, b1, b1] (by kernel_rfl) (qEnd (sSeq (rRunS [] [(7, .int .i64 0)] [] (by kernel_rfl) ?_)))))
  refine sSeq (sSeq (rRunS [] [(33, .int .i64 0), (32, .int .i64 (l.length : Int)), (31, .slice pa l.length pc)] [] (by kernel_rfl) (sBlock ?_)))
  refine sPick (its' := [F]) [0] (by kernel_rfl) (by kernel_rfl) ?_
  refine sLoop (fun (x_ : Nat × Int) => match x_ with | (i, nv) => [(33, .int .i64 (i : Int)), (32, .int .i64 (l.length : Int)), (31, .slice pa l.length pc), (7, .int .i64 nv), (6, .slice ta tk.length tc), (5, .slice pa l.length pc), (4, .int .i64 lim), (3, .int .i64 num)]) (fun (x_ : Nat × Int) => match x_ with | (i, nv) => [F]) (fun (x_ : Nat × Int) => match x_ with | (i, nv) => i ≤ l.length) (fun (x_ : Nat × Int) => match x_ with | (i, nv) => l.length - i) (0, 0) (Nat.zero_le _) (by kernel_rfl) rfl ?_
  rintro ⟨i, nv⟩ hi
  refine sSeq (rRunS [] [(34, .bool (decide ((i : Int) < (l.length : Int))))] [] (by kernel_rfl) (sSeq ?_))
  refine sIfP (bpD ((i : Int) < (l.length : Int))) (by kernel_rfl) (fun h1 => ?_) (fun h1 => ?_)
  · refine sSkip (sSeq (sBlock (sSeq (sReg ?_))))
    obtain ⟨b2, ob2, hab2, hcb2⟩ := BS.some hB (by omega)
    refine lR (u := .pointer (some ⟨b2, ob2 + i * 3, none⟩)) (runIndexD (T := 22) (E := 28) (n := l.length) (c := pc) (b := b2) (o := ob2) (k := 3) (ik := .i64) i hab2 (by kernel_rfl) (by kernel_rfl) (by omega)) (by kernel_rfl) (by kernel_rfl) (by kernel_rfl) ?_
    obtain ⟨x3, hx3⟩ : ∃ x, l[i]? = some x := ⟨_, List.getElem?_eq_getElem (by (try simp only [List.length_set, List.length_append, List.length_replicate, List.length_cons, List.length_nil]); omega)⟩
    refine lR (u := .agg #[.int .i64 x3.frm, .int .i64 x3.to, .slice x3.da x3.data.length x3.dc]) (runLoadBS (f := encDgA) (T := 28) (k := 3) (fun _ => rfl) hcb2 hx3 (by kernel_rfl) (by kernel_rfl)) (by kernel_rfl) (by kernel_rfl) (by kernel_rfl) ?_
    refine lRunN 2 [(1, 2, 0)] (fun b4 => [(9, .pointer (some ⟨b4, 0, none⟩))]) (fun b4 => []) (fun b4 => .cells #[.int .i64 x3.frm, .int .i64 x3.to, .slice x3.da x3.data.length x3.dc] 28) (fun b4 => [b4, b4, b4]) (fun b4 => by kernel_rfl) (fun b4 => ?_)
    refine lEnd (rRunS [(2, 2, 0)] [(7, .int .i64 (IntKind.i64.wrap (nv + (x3.data.length : Int)))), (41, .int .i64 (IntKind.i64.wrap (nv + (x3.data.length : Int)))), (40, .int .i64 (x3.data.length : Int)), (39, .slice x3.da x3.data.length x3.dc), (38, .pointer (some ⟨b4, 2, none⟩)), (37, .int .i64 nv)] [b4] (by kernel_rfl) (sEnd (sReg (lRunS 1 [] [(42, .int .i64 (IntKind.i64.wrap ((i : Int) + 1)))] [] (by kernel_rfl) (lOv 42 (iw (x := (i : Int) + 1) (by omega)) (by kernel_rfl) ?_)))))
    refine lRunS 1 [] [(33, .int .i64 ((i : Int) + 1))] [] (by kernel_rfl) (lEnd ?_)
    exact sPick [0] (by kernel_rfl) (by kernel_rfl) (sAgain (i + 1, IntKind.i64.wrap (nv + (x3.data.length : Int))) (by simp only []; omega) (by first | omega | (simp only []; omega)) (by kernel_rfl) rfl)
  · refine sExit (by kernel_rfl) (sSeq (sSeq (sReg (lRunS 4 [] [(46, .bool (decide ((l.length : Int) > (150 : Int)))), (45, .bool (decide ((l.length : Int) > (150 : Int)))), (44, .int .i64 (l.length : Int)), (43, .slice pa l.length pc)] [] (by kernel_rfl) (lShort 3 [] 46 (decide ((l.length : Int) > (150 : Int))) 49 true (decide (nv > (20000 : Int))) [(48, undef), (47, undef)] [(48, .bool (decide (nv > (20000 : Int)))), (47, .int .i64 nv)] [] [] (by kernel_rfl) (by kernel_rfl) (by kernel_rfl) (by kernel_rfl) ?_)))))
    refine lEnd ?_
    refine sIfP (bpO (bpD ((l.length : Int) > (150 : Int))) (bpD (nv > (20000 : Int)))) (by kernel_rfl) (fun h2 => ?_) (fun h2 => ?_)
    · refine sSeq (sReg ?_)
      refine lCallR [] [0] (c_awake W) (by kernel_rfl) (by kernel_rfl) (by kernel_rfl) (by kernel_rfl) (by kernel_rfl) (lRunS 1 [] [(2, .bool true)] [] (by kernel_rfl) (lEnd (sRet ?_)))
      exact wRet () (0, 0) [] (.bool true) [.tmp 2] rfl (by kernel_rfl) rfl trivial (fun _ h => h)
    · have hl150 : ¬ ((l.length : Int) > (150 : Int)) := fun e => h2 (.inl e)
      refine sSkip (sSeq (sReg (lRunS 2 [] [(53, .int .i64 lim), (52, .int .i64 num)] [] (by kernel_rfl) ?_)))
      rcases Classical.em (goodP num lim) with hg | hg
      · refine lCallP [] (c_np1 W [] num lim hg) (by kernel_rfl) (by kernel_rfl) (by kernel_rfl) ?_
        rintro pb -
        refine lRunS 5 [] [(11, .int .i64 0), (10, .pointer (some ⟨pb, 0, none⟩)), (56, .int .i64 0), (55, .pointer (some ⟨pb, 0, none⟩)), (51, .tuple #[.pointer (some ⟨pb, 0, none⟩), .int .i64 0])] [] (by kernel_rfl) (lEnd (sSeq (sReg (lRunS 2 [] [(59, .int .i64 lim), (58, .int .i64 num)] [] (by kernel_rfl) ?_))))
        refine lCallP [] (c_rnp1 W [] num lim hg) (by kernel_rfl) (by kernel_rfl) (by kernel_rfl) ?_
        rintro rb -
        refine lRunS 5 [] [(13, .int .i64 0), (12, .pointer (some ⟨rb, 0, none⟩)), (62, .int .i64 0), (61, .pointer (some ⟨rb, 0, none⟩)), (57, .tuple #[.pointer (some ⟨rb, 0, none⟩), .int .i64 0])] [] (by kernel_rfl) (lEnd (sSeq (sSeq (sReg (lRunS 9 [] [(71, .bool (!(false == false))), (70, .bool false), (69, .int .i64 0), (68, .bool false), (67, .pointer (some ⟨pb, 0, none⟩)), (66, .bool false), (65, .bool false), (64, .int .i64 0), (63, .int .i64 0)] [] (by kernel_rfl) ?_)))))
        refine lOv (v := .bool false) (v0 := .bool (!(false == false))) 71 (congrArg Value.bool (by simp)) (by kernel_rfl) (lRunS 1 [] [(72, .bool false)] [] (by kernel_rfl) (lEnd (sIfF (by kernel_rfl) (sSkip (sSeq ?_)))))
        refine sSeq (rRunS [] [(14, .int .i64 0)] [] (by kernel_rfl) (sBlock ?_))
        refine sPick (its' := [[(pb, .cells #[.int .i64 num, .int .i64 lim, .slice none 0 0] 94)], [(rb, .cells #[.int .i64 num, .int .i64 lim, .slice none 0 0] 97)], F]) [1, 0, 2] (by kernel_rfl) (by kernel_rfl) ?_
        refine sRe (its' := [[(pb, .cells #[.int .i64 num, .int .i64 lim, .slice sen.a (([] : List Dg).length) sen.cap] 94)], SE.blk 28 encDg sen ([] : List Dg), QB ([] : List Dg), [(rb, .cells #[.int .i64 num, .int .i64 lim, .slice sdn.a (([] : List Dg).length) sdn.cap] 97)], SD.blk 40 encDg sdn ([] : List Dg), QB ([] : List Dg), F]) rfl ?_
        refine sLoop (fun (x_ : Nat × SE × List Dg × SD × List Dg) => match x_ with | (i, se, q, d, r) => [(14, .int .i64 (i : Int)), (12, .pointer (some ⟨rb, 0, none⟩)), (11, .int .i64 0), (10, .pointer (some ⟨pb, 0, none⟩)), (6, .slice ta tk.length tc), (5, .slice pa l.length pc)]) (fun (x_ : Nat × SE × List Dg × SD × List Dg) => match x_ with | (i, se, q, d, r) => [[(pb, .cells #[.int .i64 num, .int .i64 lim, .slice se.a q.length se.cap] 94)], SE.blk 28 encDg se q, QB q, [(rb, .cells #[.int .i64 num, .int .i64 lim, .slice d.a r.length d.cap] 97)], SD.blk 40 encDg d r, QB r, F]) (fun (x_ : Nat × SE × List Dg × SD × List Dg) => match x_ with | (i, se, q, d, r) => i ≤ l.length ∧ se.ok 3 q.length ∧ d.ok 3 r.length ∧ q.map core = r.map core ∧ (q.length : Int) ≤ lim ∧ q.length ≤ i ∧ QOk4 q ∧ QOk4 r) (fun (x_ : Nat × SE × List Dg × SD × List Dg) => match x_ with | (i, se, q, d, r) => l.length - i) (0, sen, [], sdn, []) ⟨by omega, SE.ok_nil 3, SD.ok_nil 3, rfl, (by have := hg.2.1; simp only [List.length_nil]; omega), Nat.le_refl _, (fun _ h => by cases h), fun _ h => by cases h⟩ (by kernel_rfl) rfl ?_
        rintro ⟨i, se, q, d, r⟩ ⟨hi, hse, hd, hc, hql, hqi, hqo, hro⟩
        have hrl : r.length = q.length := by have := congrArg List.length hc; simpa using this.symm
        refine sSeq (sSeq (sReg (lRunS 5 [] [(77, .bool (decide ((i : Int) < (l.length : Int)))), (76, .bool (decide ((i : Int) < (l.length : Int)))), (75, .int .i64 (l.length : Int)), (74, .slice pa l.length pc), (73, .int .i64 (i : Int))] [] (by kernel_rfl) (lShort 3 [] 77 (decide ((i : Int) < (l.length : Int))) 80 true false [(79, .bool true), (78, .int .i64 0)] [(79, undef), (78, undef)] [] [] (by kernel_rfl) (by kernel_rfl) (by kernel_rfl) (by kernel_rfl) (lOv (v := .bool (decide ((i : Int) < (l.length : Int)))) (v0 := .bool (bif decide ((i : Int) < (l.length : Int)) then true else false)) 80 (congrArg Value.bool (by simp)) (by kernel_rfl) ?_)))))
        refine lEnd ?_
        refine sIfP (bpD ((i : Int) < (l.length : Int))) (by kernel_rfl) (fun h3 => ?_) (fun h3 => ?_)
        · refine sSkip (sSeq (sBlock (sSeq (sReg (lRunS 3 [] [(86, .int .i64 (i : Int)), (85, .slice pa l.length pc), (84, .pointer (some ⟨pb, 0, none⟩))] [] (by kernel_rfl) ?_)))))
          obtain ⟨b5, ob5, hab5, hcb5⟩ := BS.some hB (by omega)
          refine lR (u := .pointer (some ⟨b5, ob5 + i * 3, none⟩)) (runIndexD (T := 22) (E := 28) (n := l.length) (c := pc) (b := b5) (o := ob5) (k := 3) (ik := .i64) i hab5 (by kernel_rfl) (by kernel_rfl) (by omega)) (by kernel_rfl) (by kernel_rfl) (by kernel_rfl) ?_
          obtain ⟨x6, hx6⟩ : ∃ x, l[i]? = some x := ⟨_, List.getElem?_eq_getElem (by (try simp only [List.length_set, List.length_append, List.length_replicate, List.length_cons, List.length_nil]); omega)⟩
          refine lR (u := .agg #[.int .i64 x6.frm, .int .i64 x6.to, .slice x6.da x6.data.length x6.dc]) (runLoadBS (f := encDgA) (T := 28) (k := 3) (fun _ => rfl) hcb5 hx6 (by kernel_rfl) (by kernel_rfl)) (by kernel_rfl) (by kernel_rfl) (by kernel_rfl) ?_
          have hxd := hD x6 (List.mem_of_getElem? hx6)
          refine lCallP [0, 1, 2] (c_put W [] pb num lim se q hse (by omega) x6.frm x6.to x6.da x6.dc x6.data hxd) (by kernel_rfl) (by kernel_rfl) (by kernel_rfl) ?_
          rintro ⟨se2, d1⟩ ⟨hse2, hd1⟩
          refine lRunS 1 [] [(83, resP (putK num lim q.length x6.frm x6.to x6.data.length))] [] (by kernel_rfl) (lOv (v := .tuple #[.bool (putB (putK num lim q.length x6.frm x6.to x6.data.length)), .int .i64 (putE (putK num lim q.length x6.frm x6.to x6.data.length))]) (v0 := resP (putK num lim q.length x6.frm x6.to x6.data.length)) 83 (resP_eq _) (by kernel_rfl) (lRunS 4 [] [(16, .int .i64 (putE (putK num lim q.length x6.frm x6.to x6.data.length))), (15, .bool (putB (putK num lim q.length x6.frm x6.to x6.data.length))), (91, .int .i64 (putE (putK num lim q.length x6.frm x6.to x6.data.length))), (90, .bool (putB (putK num lim q.length x6.frm x6.to x6.data.length)))] [] (by kernel_rfl) (lEnd (sSeq (sReg ?_)))))
          refine lRunS 3 [] [(95, .int .i64 (i : Int)), (94, .slice pa l.length pc), (93, .pointer (some ⟨rb, 0, none⟩))] [] (by kernel_rfl) (lR (u := .pointer (some ⟨b5, ob5 + i * 3, none⟩)) (runIndexD (T := 22) (E := 28) (n := l.length) (c := pc) (b := b5) (o := ob5) (k := 3) (ik := .i64) i hab5 (by kernel_rfl) (by kernel_rfl) (by omega)) (by kernel_rfl) (by kernel_rfl) (by kernel_rfl) (lR (u := .agg #[.int .i64 x6.frm, .int .i64 x6.to, .slice x6.da x6.data.length x6.dc]) (runLoadBS (f := encDgA) (T := 28) (k := 3) (fun _ => rfl) hcb5 hx6 (by kernel_rfl) (by kernel_rfl)) (by kernel_rfl) (by kernel_rfl) (by kernel_rfl) ?_))
          refine lCallP [3, 4, 5] (c_rput W [] rb num lim d r q.length hrl hd (by omega) hql x6.frm x6.to x6.da x6.dc x6.data hxd) (by kernel_rfl) (by kernel_rfl) (by kernel_rfl) ?_
          rintro ⟨d2, e1⟩ ⟨hd2, he1⟩
          refine lRunS 1 [] [(92, resP (putK num lim q.length x6.frm x6.to x6.data.length))] [] (by kernel_rfl) (lOv (v := .tuple #[.bool (putB (putK num lim q.length x6.frm x6.to x6.data.length)), .int .i64 (putE (putK num lim q.length x6.frm x6.to x6.data.length))]) (v0 := resP (putK num lim q.length x6.frm x6.to x6.data.length)) 92 (resP_eq _) (by kernel_rfl) (lRunS 4 [] [(18, .int .i64 (putE (putK num lim q.length x6.frm x6.to x6.data.length))), (17, .bool (putB (putK num lim q.length x6.frm x6.to x6.data.length))), (100, .int .i64 (putE (putK num lim q.length x6.frm x6.to x6.data.length))), (99, .bool (putB (putK num lim q.length x6.frm x6.to x6.data.length)))] [] (by kernel_rfl) (lEnd (sSeq (sSeq ?_)))))
          refine sReg (lRunS 3 [] [(103, .bool (!((putB (putK num lim q.length x6.frm x6.to x6.data.length)) == (putB (putK num lim q.length x6.frm x6.to x6.data.length))))), (102, .bool (putB (putK num lim q.length x6.frm x6.to x6.data.length))), (101, .bool (putB (putK num lim q.length x6.frm x6.to x6.data.length)))] [] (by kernel_rfl) (lOv (v := .bool false) (v0 := .bool (!((putB (putK num lim q.length x6.frm x6.to x6.data.length)) == (putB (putK num lim q.length x6.frm x6.to x6.data.length))))) 103 (congrArg Value.bool (by simp)) (by kernel_rfl) (lRunS 4 [] [(107, .bool (!(decide ((putE (putK num lim q.length x6.frm x6.to x6.data.length)) = (putE (putK num lim q.length x6.frm x6.to x6.data.length)))))), (106, .int .i64 (putE (putK num lim q.length x6.frm x6.to x6.data.length))), (105, .int .i64 (putE (putK num lim q.length x6.frm x6.to x6.data.length))), (104, .bool false)] [] (by kernel_rfl) (lOv (v := .bool false) (v0 := .bool (!(decide ((putE (putK num lim q.length x6.frm x6.to x6.data.length)) = (putE (putK num lim q.length x6.frm x6.to x6.data.length)))))) 107 (congrArg Value.bool (by simp)) (by kernel_rfl) (lRunS 1 [] [(108, .bool false)] [] (by kernel_rfl) ?_)))))
          refine lEnd (sIfF (by kernel_rfl) (sSkip (sSeq ?_)))
          have hqo2 := hqo.put hd1
          have hro2 := hro.put he1
          have hc2 := putQ_core hc (putK num lim q.length x6.frm x6.to x6.data.length) x6.frm x6.to x6.data d1 e1
          obtain ⟨hql2, hqi2⟩ := putQ_len (num := num) (q := q) (f := x6.frm) (t := x6.to) (m := x6.data.length) (x := ⟨x6.frm, x6.to, x6.data, d1⟩) hql
          obtain ⟨q2, hq2⟩ : ∃ q2, q2 = putQ (putK num lim q.length x6.frm x6.to x6.data.length) q ⟨x6.frm, x6.to, x6.data, d1⟩ := ⟨_, rfl⟩
          obtain ⟨r2, hr2⟩ : ∃ r2, r2 = putQ (putK num lim q.length x6.frm x6.to x6.data.length) r ⟨x6.frm, x6.to, x6.data, e1⟩ := ⟨_, rfl⟩
          rw [← hq2] at hqo2 hc2 hql2 hqi2 hse2
          rw [← hr2] at hro2 hc2 hd2
          refine sRe (its' := [[(rb, .cells #[.int .i64 num, .int .i64 lim, .slice d2.a r2.length d2.cap] 97)], SD.blk 40 encDg d2 r2, QB r2, [(pb, .cells #[.int .i64 num, .int .i64 lim, .slice se2.a q2.length se2.cap] 94)], SE.blk 28 encDg se2 q2, QB q2, F]) (by rw [hq2, hr2] <;> rfl) ?_
          refine sPick (its' := [[(pb, .cells #[.int .i64 num, .int .i64 lim, .slice se2.a q2.length se2.cap] 94)], SE.blk 28 encDg se2 q2, QB q2, [(rb, .cells #[.int .i64 num, .int .i64 lim, .slice d2.a r2.length d2.cap] 97)], SD.blk 40 encDg d2 r2, QB r2, F]) [3, 4, 5, 0, 1, 2, 6] (by kernel_rfl) (by kernel_rfl) ?_
          refine sReg (lRunS 5 [] [(113, .bool (decide ((i : Int) < (tk.length : Int)))), (112, .bool (decide ((i : Int) < (tk.length : Int)))), (111, .int .i64 (tk.length : Int)), (110, .slice ta tk.length tc), (109, .int .i64 (i : Int))] [] (by kernel_rfl) ?_)
          rcases Classical.em ((i : Int) < (tk.length : Int)) with h4 | h4
          · refine lOv (v := .bool true) (v0 := .bool (decide ((i : Int) < (tk.length : Int)))) 113 (ovT (bpD ((i : Int) < (tk.length : Int))) h4) (by kernel_rfl) (lRunS 2 [] [(115, .int .i64 (i : Int)), (114, .slice ta tk.length tc)] [] (by kernel_rfl) ?_)
            obtain ⟨b7, ob7, hab7, hcb7⟩ := BS.some hT (by omega)
            refine lR (u := .pointer (some ⟨b7, ob7 + i * 1, none⟩)) (runIndexD (T := 23) (E := 4) (n := tk.length) (c := tc) (b := b7) (o := ob7) (k := 1) (ik := .i64) i hab7 (by kernel_rfl) (by kernel_rfl) (by omega)) (by kernel_rfl) (by kernel_rfl) (by kernel_rfl) ?_
            obtain ⟨x8, hx8⟩ : ∃ x, tk[i]? = some x := ⟨_, List.getElem?_eq_getElem (by (try simp only [List.length_set, List.length_append, List.length_replicate, List.length_cons, List.length_nil]); omega)⟩
            refine lR (u := .bool x8) (runLoadBE1 (f := encBool) (T := 4) (v := .bool x8) (fun _ => rfl) hcb7 hx8 rfl (by kernel_rfl)) (by kernel_rfl) (by kernel_rfl) (by kernel_rfl) (lRunS 1 [] [(118, .bool x8)] [] (by kernel_rfl) (lEnd ?_))
            refine sIfP (bpR x8) (by kernel_rfl) (fun h5 => ?_) (fun h5 => ?_)
            · refine sSeq (sReg (lRunS 1 [] [(120, .pointer (some ⟨pb, 0, none⟩))] [] (by kernel_rfl) ?_))
              rcases q2 with _ | ⟨y, q3⟩
              · obtain rfl := core_nil hc2
                refine lRe (its' := [[(pb, .cells #[.int .i64 num, .int .i64 lim, .slice se2.a 0 se2.cap] 94)], SE.blk 28 encDg se2 ([] : List Dg), [], [(rb, .cells #[.int .i64 num, .int .i64 lim, .slice d2.a 0 d2.cap] 97)], SD.blk 40 encDg d2 ([] : List Dg), [], F]) rfl ?_
                refine lCallR [0, 1, 2] [0, 1, 2, 3, 4, 5, 6] (c_take0 W [] pb num lim se2) (by kernel_rfl) (by kernel_rfl) (by kernel_rfl) (by kernel_rfl) (by kernel_rfl) ?_
                refine lRunN 6 [(4, 8, 0)] (fun b9 => [(20, .bool false), (19, .pointer (some ⟨b9, 0, none⟩)), (123, .bool false), (122, .agg #[.int .i64 0, .int .i64 0, .slice none 0 0]), (119, .tuple #[.agg #[.int .i64 0, .int .i64 0, .slice none 0 0], .bool false])]) (fun b9 => []) (fun b9 => .cells #[.int .i64 0, .int .i64 0, .slice none 0 0] 28) (fun b9 => [b9, b9, b9]) (fun b9 => by kernel_rfl) (fun b9 => ?_)
                refine lEnd (sSeq (sReg (lRunS 1 [] [(125, .pointer (some ⟨rb, 0, none⟩))] [] (by kernel_rfl) ?_)))
                refine lCallR [3, 4, 5] [3, 4, 5, 0, 1, 2, 6, 7] (c_rtake0 W [] rb num lim d2) (by kernel_rfl) (by kernel_rfl) (by kernel_rfl) (by kernel_rfl) (by kernel_rfl) ?_
                refine lRunN 6 [(4, 9, 0)] (fun b10 => [(22, .bool false), (21, .pointer (some ⟨b10, 0, none⟩)), (128, .bool false), (127, .agg #[.int .i64 0, .int .i64 0, .slice none 0 0]), (124, .tuple #[.agg #[.int .i64 0, .int .i64 0, .slice none 0 0], .bool false])]) (fun b10 => []) (fun b10 => .cells #[.int .i64 0, .int .i64 0, .slice none 0 0] 40) (fun b10 => [b10, b10, b10]) (fun b10 => by kernel_rfl) (fun b10 => ?_)
                refine lEnd (sSeq (sReg (lRunS 3 [] [(131, .bool (!(false == false))), (130, .bool false), (129, .bool false)] [] (by kernel_rfl) (lOv (v := .bool false) (v0 := .bool (!(false == false))) 131 (congrArg Value.bool (by simp)) (by kernel_rfl) (lRunS 19 [(2, 8, 0), (4, 9, 0), (9, 8, 0), (11, 9, 0), (16, 8, 0), (18, 9, 0)] [(150, .slice none 0 0), (149, .pointer (some ⟨b10, 2, none⟩)), (148, .slice none 0 0), (147, .pointer (some ⟨b9, 2, none⟩)), (146, .bool false), (145, .bool false), (144, .bool false), (143, .int .i64 0), (142, .pointer (some ⟨b10, 1, none⟩)), (141, .int .i64 0), (140, .pointer (some ⟨b9, 1, none⟩)), (139, .bool false), (138, .bool false), (137, .bool false), (136, .int .i64 0), (135, .pointer (some ⟨b10, 0, none⟩)), (134, .int .i64 0), (133, .pointer (some ⟨b9, 0, none⟩)), (132, .bool false)] [b10, b9, b10, b9, b10, b9] (by kernel_rfl) ?_)))))
                refine lCallR [] [0, 1, 2, 3, 4, 5, 6, 7, 8] (c_equal0 W []) (by kernel_rfl) (by kernel_rfl) (by kernel_rfl) (by kernel_rfl) (by kernel_rfl) (lRunS 2 [] [(153, .bool false), (152, .bool false)] [] (by kernel_rfl) (lEnd (sIfF (by kernel_rfl) (sSkip (sEnd ?_)))))
                refine sReg (lRunS 2 [] [(82, .int .i64 (IntKind.i64.wrap ((i : Int) + 1))), (81, .int .i64 (i : Int))] [] (by kernel_rfl) (lOv 82 (iw (x := (i : Int) + 1) (by omega)) (by kernel_rfl) (lRunS 1 [] [(14, .int .i64 ((i : Int) + 1))] [] (by kernel_rfl) (lEnd ?_))))
                refine sPick (its' := [[(pb, .cells #[.int .i64 num, .int .i64 lim, .slice se2.a 0 se2.cap] 94)], SE.blk 28 encDg se2 ([] : List Dg), [], [(rb, .cells #[.int .i64 num, .int .i64 lim, .slice d2.a 0 d2.cap] 97)], SD.blk 40 encDg d2 ([] : List Dg), [], F]) [0, 1, 2, 3, 4, 5, 6] (by kernel_rfl) (by kernel_rfl) ?_
                refine sRe (its' := [[(pb, .cells #[.int .i64 num, .int .i64 lim, .slice se2.a (([] : List Dg).length) se2.cap] 94)], SE.blk 28 encDg se2 ([] : List Dg), QB ([] : List Dg), [(rb, .cells #[.int .i64 num, .int .i64 lim, .slice d2.a (([] : List Dg).length) d2.cap] 97)], SD.blk 40 encDg d2 ([] : List Dg), QB ([] : List Dg), F]) rfl ?_
                exact sAgain (i + 1, se2, [], d2, []) ⟨by omega, hse2, hd2, hc2, hql2, by omega, hqo2, hro2⟩ (by first | omega | (simp only []; omega)) (by kernel_rfl) rfl
              · obtain ⟨zd, r3, rfl, hc3⟩ := core_cons hc2
                rw [List.length_cons] at hql2 hqi2
                have hrl3 : r3.length = q3.length := by have := congrArg List.length hc3; simpa using this.symm
                have hyo := hqo2 y (List.mem_cons_self ..)
                have hzo := hro2 (⟨y.frm, y.to, y.data, zd⟩ : Dg) (List.mem_cons_self ..)
                refine lRe (its' := [[(pb, .cells #[.int .i64 num, .int .i64 lim, .slice se2.a (q3.length + 1) se2.cap] 94)], SE.blk 28 encDg se2 (y :: q3), QB (y :: q3), [(rb, .cells #[.int .i64 num, .int .i64 lim, .slice d2.a (r3.length + 1) d2.cap] 97)], SD.blk 40 encDg d2 ((⟨y.frm, y.to, y.data, zd⟩ : Dg) :: r3), QB ((⟨y.frm, y.to, y.data, zd⟩ : Dg) :: r3), F]) rfl ?_
                refine lCallP [0, 1, 2] (c_take1 W [] pb num lim se2 y q3 hse2 (by omega)) (by kernel_rfl) (by kernel_rfl) (by kernel_rfl) ?_
                rintro se3 hse3
                refine lRunN 6 [(4, 9, 0)] (fun b11 => [(20, .bool true), (19, .pointer (some ⟨b11, 0, none⟩)), (123, .bool true), (122, .agg #[.int .i64 y.frm, .int .i64 y.to, .slice y.d.a y.data.length y.d.cap]), (119, .tuple #[.agg #[.int .i64 y.frm, .int .i64 y.to, .slice y.d.a y.data.length y.d.cap], .bool true])]) (fun b11 => []) (fun b11 => .cells #[.int .i64 y.frm, .int .i64 y.to, .slice y.d.a y.data.length y.d.cap] 28) (fun b11 => [b11, b11, b11]) (fun b11 => by kernel_rfl) (fun b11 => ?_)
                refine lEnd (sSeq (sReg (lRunS 1 [] [(125, .pointer (some ⟨rb, 0, none⟩))] [] (by kernel_rfl) ?_)))
                refine lCallP [4, 5, 6] (c_rtake1 W [] rb num lim d2 (⟨y.frm, y.to, y.data, zd⟩ : Dg) r3 hd2 (by omega)) (by kernel_rfl) (by kernel_rfl) (by kernel_rfl) ?_
                rintro d3 hd3
                refine lRunN 6 [(4, 11, 0)] (fun b12 => [(22, .bool true), (21, .pointer (some ⟨b12, 0, none⟩)), (128, .bool true), (127, .agg #[.int .i64 ((⟨y.frm, y.to, y.data, zd⟩ : Dg).frm), .int .i64 ((⟨y.frm, y.to, y.data, zd⟩ : Dg).to), .slice ((⟨y.frm, y.to, y.data, zd⟩ : Dg).d.a) ((⟨y.frm, y.to, y.data, zd⟩ : Dg).data.length) ((⟨y.frm, y.to, y.data, zd⟩ : Dg).d.cap)]), (124, .tuple #[.agg #[.int .i64 ((⟨y.frm, y.to, y.data, zd⟩ : Dg).frm), .int .i64 ((⟨y.frm, y.to, y.data, zd⟩ : Dg).to), .slice ((⟨y.frm, y.to, y.data, zd⟩ : Dg).d.a) ((⟨y.frm, y.to, y.data, zd⟩ : Dg).data.length) ((⟨y.frm, y.to, y.data, zd⟩ : Dg).d.cap)], .bool true])]) (fun b12 => []) (fun b12 => .cells #[.int .i64 ((⟨y.frm, y.to, y.data, zd⟩ : Dg).frm), .int .i64 ((⟨y.frm, y.to, y.data, zd⟩ : Dg).to), .slice ((⟨y.frm, y.to, y.data, zd⟩ : Dg).d.a) ((⟨y.frm, y.to, y.data, zd⟩ : Dg).data.length) ((⟨y.frm, y.to, y.data, zd⟩ : Dg).d.cap)] 40) (fun b12 => [b12, b12, b12]) (fun b12 => by kernel_rfl) (fun b12 => ?_)
                refine lEnd (sSeq (sReg (lRunS 3 [] [(131, .bool (!(true == true))), (130, .bool true), (129, .bool true)] [] (by kernel_rfl) (lOv (v := .bool false) (v0 := .bool (!(true == true))) 131 (congrArg Value.bool (by simp)) (by kernel_rfl) (lRunS 6 [(2, 10, 0), (4, 11, 0)] [(137, .bool (!(decide (y.frm = ((⟨y.frm, y.to, y.data, zd⟩ : Dg).frm))))), (136, .int .i64 ((⟨y.frm, y.to, y.data, zd⟩ : Dg).frm)), (135, .pointer (some ⟨b12, 0, none⟩)), (134, .int .i64 y.frm), (133, .pointer (some ⟨b11, 0, none⟩)), (132, .bool false)] [b12, b11] (by kernel_rfl) ?_)))))
                refine lOv (v := .bool false) (v0 := .bool (!(decide (y.frm = ((⟨y.frm, y.to, y.data, zd⟩ : Dg).frm))))) 137 (congrArg Value.bool (by simp)) (by kernel_rfl) (lRunS 7 [(3, 10, 0), (5, 11, 0)] [(144, .bool (!(decide (y.to = ((⟨y.frm, y.to, y.data, zd⟩ : Dg).to))))), (143, .int .i64 ((⟨y.frm, y.to, y.data, zd⟩ : Dg).to)), (142, .pointer (some ⟨b12, 1, none⟩)), (141, .int .i64 y.to), (140, .pointer (some ⟨b11, 1, none⟩)), (139, .bool false), (138, .bool false)] [b12, b11] (by kernel_rfl) (lOv (v := .bool false) (v0 := .bool (!(decide (y.to = ((⟨y.frm, y.to, y.data, zd⟩ : Dg).to))))) 144 (congrArg Value.bool (by simp)) (by kernel_rfl) (lRunS 6 [(3, 10, 0), (5, 11, 0)] [(150, .slice ((⟨y.frm, y.to, y.data, zd⟩ : Dg).d.a) ((⟨y.frm, y.to, y.data, zd⟩ : Dg).data.length) ((⟨y.frm, y.to, y.data, zd⟩ : Dg).d.cap)), (149, .pointer (some ⟨b12, 2, none⟩)), (148, .slice y.d.a y.data.length y.d.cap), (147, .pointer (some ⟨b11, 2, none⟩)), (146, .bool false), (145, .bool false)] [b12, b11] (by kernel_rfl) ?_)))
                refine lCallR [6, 2] [2, 3, 1, 4, 5, 6, 0, 7, 8, 9, 10] (c_equalT W [] y.d zd y.data hyo.1 hzo.1 (by omega)) (by kernel_rfl) (by kernel_rfl) (by kernel_rfl) (by kernel_rfl) (by kernel_rfl) (lRunS 2 [] [(153, .bool false), (152, .bool false)] [] (by kernel_rfl) (lEnd (sIfF (by kernel_rfl) (sSkip (sEnd ?_)))))
                refine sReg (lRunS 2 [] [(82, .int .i64 (IntKind.i64.wrap ((i : Int) + 1))), (81, .int .i64 (i : Int))] [] (by kernel_rfl) (lOv 82 (iw (x := (i : Int) + 1) (by omega)) (by kernel_rfl) (lRunS 1 [] [(14, .int .i64 ((i : Int) + 1))] [] (by kernel_rfl) (lEnd ?_))))
                exact sPick [4, 5, 7, 0, 1, 3, 8] (by kernel_rfl) (by kernel_rfl) (sAgain (i + 1, se3, q3, d3, r3) ⟨by omega, hse3, hd3, hc3, by omega, by omega, fun a ha => hqo2 a (List.mem_cons_of_mem _ ha), fun a ha => hro2 a (List.mem_cons_of_mem _ ha)⟩ (by first | omega | (simp only []; omega)) (by kernel_rfl) rfl)
            · refine sSkip (sEnd (sReg (lRunS 2 [] [(82, .int .i64 (IntKind.i64.wrap ((i : Int) + 1))), (81, .int .i64 (i : Int))] [] (by kernel_rfl) (lOv 82 (iw (x := (i : Int) + 1) (by omega)) (by kernel_rfl) (lRunS 1 [] [(14, .int .i64 ((i : Int) + 1))] [] (by kernel_rfl) ?_)))))
              refine lEnd ?_
              exact sAgain (i + 1, se2, q2, d2, r2) ⟨by omega, hse2, hd2, hc2, hql2, by omega, hqo2, hro2⟩ (by first | omega | (simp only []; omega)) (by kernel_rfl) rfl
          · refine lOv (v := .bool false) (v0 := .bool (decide ((i : Int) < (tk.length : Int)))) 113 (ovF (bpD ((i : Int) < (tk.length : Int))) h4) (by kernel_rfl) (lRunS 5 [] [(118, .bool false), (117, undef), (116, undef), (115, undef), (114, undef)] [] (by kernel_rfl) (lEnd (sIfF (by kernel_rfl) (sSkip (sEnd ?_)))))
            refine sReg (lRunS 2 [] [(82, .int .i64 (IntKind.i64.wrap ((i : Int) + 1))), (81, .int .i64 (i : Int))] [] (by kernel_rfl) (lOv 82 (iw (x := (i : Int) + 1) (by omega)) (by kernel_rfl) (lRunS 1 [] [(14, .int .i64 ((i : Int) + 1))] [] (by kernel_rfl) (lEnd ?_))))
            exact sAgain (i + 1, se2, q2, d2, r2) ⟨by omega, hse2, hd2, hc2, hql2, by omega, hqo2, hro2⟩ (by first | omega | (simp only []; omega)) (by kernel_rfl) rfl
        · refine sExit (by kernel_rfl) (sSeq (sReg ?_))
          refine lCallR [] [0, 1, 2, 3, 4, 5, 6] (c_awake W) (by kernel_rfl) (by kernel_rfl) (by kernel_rfl) (by kernel_rfl) (by kernel_rfl) (lRunS 1 [] [(2, .bool true)] [] (by kernel_rfl) (lEnd (sRet ?_)))
          exact wRet () (0, 0) [] (.bool true) [.tmp 2] rfl (by kernel_rfl) rfl trivial (fun _ h => h.pick [6] (by kernel_rfl) (by kernel_rfl))
      · refine lCallR [] [0] (c_np0 W [] num lim hg) (by kernel_rfl) (by kernel_rfl) (by kernel_rfl) (by kernel_rfl) (by kernel_rfl) (lRunS 5 [] [(11, .int .i64 34), (10, .pointer none), (56, .int .i64 34), (55, .pointer none), (51, .tuple #[.pointer none, .int .i64 34])] [] (by kernel_rfl) (lEnd (sSeq (sReg (lRunS 2 [] [(59, .int .i64 lim), (58, .int .i64 num)] [] (by kernel_rfl) ?_)))))
        refine lCallR [] [0] (c_rnp0 W [] num lim hg) (by kernel_rfl) (by kernel_rfl) (by kernel_rfl) (by kernel_rfl) (by kernel_rfl) (lRunS 5 [] [(13, .int .i64 34), (12, .pointer none), (62, .int .i64 34), (61, .pointer none), (57, .tuple #[.pointer none, .int .i64 34])] [] (by kernel_rfl) (lEnd (sSeq (sSeq (sReg ?_)))))
        refine lRunS 9 [] [(71, .bool (!(true == true))), (70, .bool true), (69, .int .i64 34), (68, .bool true), (67, .pointer none), (66, .bool false), (65, .bool false), (64, .int .i64 34), (63, .int .i64 34)] [] (by kernel_rfl) (lOv (v := .bool false) (v0 := .bool (!(true == true))) 71 (congrArg Value.bool (by simp)) (by kernel_rfl) (lRunS 1 [] [(72, .bool false)] [] (by kernel_rfl) (lEnd (sIfF (by kernel_rfl) (sSkip ?_)))))
        refine sSeq (sSeq (rRunS [] [(14, .int .i64 0)] [] (by kernel_rfl) (sBlock ?_)))
        refine sPick (its' := [F]) [0] (by kernel_rfl) (by kernel_rfl) ?_
        refine sLoop (fun (_ : Unit) => [(14, .int .i64 0), (11, .int .i64 34), (5, .slice pa l.length pc)]) (fun (_ : Unit) => [F]) (fun (_ : Unit) => True) (fun (_ : Unit) => 0) () trivial (by kernel_rfl) rfl ?_
        rintro - -
        refine sSeq (sSeq (sReg (lRunS 5 [] [(77, .bool (decide ((0 : Int) < (l.length : Int)))), (76, .bool (decide ((0 : Int) < (l.length : Int)))), (75, .int .i64 (l.length : Int)), (74, .slice pa l.length pc), (73, .int .i64 0)] [] (by kernel_rfl) (lShort 3 [] 77 (decide ((0 : Int) < (l.length : Int))) 80 false false [(79, .bool false), (78, .int .i64 34)] [(79, undef), (78, undef)] [] [] (by kernel_rfl) (by kernel_rfl) (by kernel_rfl) (by kernel_rfl) (lOv (v := .bool false) (v0 := .bool (bif decide ((0 : Int) < (l.length : Int)) then false else false)) 80 (congrArg Value.bool (by simp)) (by kernel_rfl) ?_)))))
        refine lEnd (sIfF (by kernel_rfl) (sExit (by kernel_rfl) (sSeq (sReg ?_))))
        refine lCallR [] [0] (c_awake W) (by kernel_rfl) (by kernel_rfl) (by kernel_rfl) (by kernel_rfl) (by kernel_rfl) (lRunS 1 [] [(2, .bool true)] [] (by kernel_rfl) (lEnd (sRet ?_)))
        exact wRet () (0, 0) [] (.bool true) [.tmp 2] rfl (by kernel_rfl) rfl trivial (fun _ h => h)

end Go.Proofs.Ytcobccdeocihbaa
