/- The walk of Recover. -/
import Derived.Test.YtljfjiaiachbfaaDoorProg
import Derived.Test.YtljfjiaiachbfaaDoorM4
import Derived.Test.YtljfjiaiachbfaaDoorA5
import Derived.Test.YtljfjiaiachbfaaDoorA6
import Derived.Test.YtljfjiaiachbfaaDoorB2
import Derived.Test.YtljfjiaiachbfaaDoorSn
namespace Go.Proofs.YtljfjiaiachbfaaDoor
open Go.Sx Go.Sx.Gd
set_option maxRecDepth 100000
set_option linter.unusedSimpArgs false
set_option linter.unusedVariables false
theorem c_entries (W : World) (base : List Blk) (a : Option Addr) (m c : Nat) : CF Tryd.prog W base 33 #[.slice a m c] [] (fun tb : Nat => .func (.func 47) #[] #[.pointer (some ⟨tb, 0, none⟩)]) (fun tb => [[(tb, .cells #[.slice a m c] 40)]]) (fun _ => True) := by
  intro F
  refine ctIntro Tryd.func33 rfl rfl (by kernel_rfl) ?_
  refine sSeq ?_
  refine rRunN [] (fun b1 => [(2, .nilFunc), (1, .pointer (some ⟨b1, 0, none⟩))]) (fun b1 => []) (fun b1 => .cells #[.slice a m c] 40) (fun b1 => []) (fun b1 => by kernel_rfl) (fun b1 => ?_)
  refine sSeq (rRunS [] [(2, .func (.func 47) #[] #[.pointer (some ⟨b1, 0, none⟩)]), (3, .func (.func 47) #[] #[.pointer (some ⟨b1, 0, none⟩)])] [] (by kernel_rfl) (sRet ?_))
  exact wRet b1 (0, 0) [] (.func (.func 47) #[] #[.pointer (some ⟨b1, 0, none⟩)]) [.tmp 2] rfl (by kernel_rfl) rfl trivial (fun _ h => h.pick [1, 0] (by kernel_rfl) (by kernel_rfl))

def recJ (rs : List (Nat × Req)) (s : Srv) (e : Nat) (dj : SD) : Prop := recE rs (srv0, 0) = (s, e) ∧ (∀ l1 y l2, rs = l1 ++ y :: l2 → doK (recE l1 (srv0, 0)).1 y.2 = 6) ∧ dj.ok 1 s.jr.length
theorem recJ_ok {rs : List (Nat × Req)} {s : Srv} {e : Nat} {dj : SD} (h : recJ rs s e dj) : SrvOk s := by
  have := recE_ok rs (srv0, 0) srv0_ok
  rw [h.1] at this; exact this
theorem recJ_snoc {rs : List (Nat × Req)} {s : Srv} {e p : Nat} {r : Req} {dj dj2 : SD} (h : recJ rs s e dj) (hk : doK s r = 6) (hd : dj2.ok 1 (doS s r).jr.length) : recJ (rs ++ [(p, r)]) (doS s r) p dj2 := by
  obtain ⟨h1, h2, h3⟩ := h
  refine ⟨?_, ?_, hd⟩
  · rw [recE_snoc rs (p, r) (srv0, 0) (s, e) h2 h1]; exact if_pos hk
  · intro l1 y l2 he
    rcases List.eq_nil_or_concat l2 with rfl | ⟨l3, z, rfl⟩
    · obtain ⟨e1, e2⟩ := List.append_inj' he rfl
      simp only [List.cons.injEq, and_true] at e2
      subst e1; subst e2
      rw [h1]; exact hk
    · rw [List.concat_eq_append, ← List.cons_append, ← List.append_assoc] at he
      obtain ⟨e1, e2⟩ := List.append_inj' he rfl
      exact h2 l1 y l3 e1
theorem recJ_stop {rs : List (Nat × Req)} {s : Srv} {e p : Nat} {r : Req} {dj : SD} (h : recJ rs s e dj) (hk : doK s r ≠ 6) (t : List (Nat × Req)) : recE ((rs ++ [(p, r)]) ++ t) (srv0, 0) = (s, e) := by
  obtain ⟨h1, h2, h3⟩ := h
  have key : ∀ (l : List (Nat × Req)) (st : Srv × Nat), (∀ l1 y l2, l = l1 ++ y :: l2 → doK (recE l1 st).1 y.2 = 6) → recE l st = (s, e) → recE ((l ++ [(p, r)]) ++ t) st = (s, e) := by
    intro l
    induction l with
    | nil => intro st _ h; simp only [recE] at h; subst h; simp only [List.nil_append, List.cons_append, recE]; rw [if_neg hk]
    | cons y l ih =>
      intro st hl h
      have h0 := hl [] y l rfl
      simp only [recE] at h0
      simp only [List.cons_append, recE] at h ⊢
      rw [if_pos h0] at h ⊢
      exact ih _ (fun l1 z l2 e' => by have := hl (y :: l1) z l2 (by rw [e']; rfl); simpa only [recE, if_pos h0] using this) h
  exact key rs _ h2 h1
theorem recM_E (b : List UInt8) : recM b = recE (entL b.length b 0) (srv0, 0) := (recE_entL _ _ _ _).symm
theorem entL_seq : ∀ (f : Nat) (b : List UInt8) (p : Nat) (y : Nat × Req), y ∈ entL f b p → y.2.seq ≤ 9223372036854775807
  | 0, _, _, _, h => by cases h
  | f + 1, b, p, y, h => by
    simp only [entL] at h
    split at h
    · rcases List.mem_cons.1 h with rfl | h
      · exact reqAt_seq _
      · exact entL_seq f b _ y h
    · cases h
theorem doK_le (s : Srv) (r : Req) : doK s r ≤ 6 := by
  unfold doK
  split; · decide
  split; · decide
  split; · decide
  split; · decide
  split; · decide
  split <;> decide
theorem doE_B {s : Srv} {r : Req} : (doE s r = 0 ∧ doB s r = true) ↔ doK s r = 6 := by
  have h := doK_le s r
  unfold doE doB
  generalize doK s r = k at *
  rcases k with _ | _ | _ | _ | _ | _ | _ | k <;> first | (simp; done) | omega

theorem c_recover (W : World) (base : List Blk) {D : List Blk} (a : Option Addr) (m c : Nat) (bs : List UInt8) (hA : bs = [] ∨ ∃ qb qo, a = some ⟨qb, qo, none⟩ ∧ Src W D qb qo bs) (hm : bs.length = m) (hmc : m ≤ c) (hmx : m ≤ 1000000) :
    CF Tryd.prog W base 19 #[.slice a m c] [D] (fun x : Nat × Nat × Nat × SD => .tuple #[.pointer (some ⟨x.1, 0, none⟩), .int .i64 (((recM bs).2 : Nat) : Int)]) (fun x => [[(x.1, .cells #[.map (some x.2.1), .map (some x.2.2.1), .slice x.2.2.2.a (((recM bs).1).jr.length) x.2.2.2.cap, .int .i64 ((((recM bs).1).cnt : Nat) : Int)] 82)], [(x.2.1, .map (mkM Value.string (alM ((recM bs).1).acc 0)) (((recM bs).1).acc.length))], [(x.2.2.1, .map (mkM (Value.int .i64) (clM ((recM bs).1).cli 0)) (((recM bs).1).cli.length))], SD.blk 5 encByte x.2.2.2 (((recM bs).1).jr), D]) (fun x => x.2.2.2.ok 1 (recM bs).1.jr.length) := by
  intro F
  refine ctIntroM Tryd.func19 rfl rfl (by kernel_rfl) ?_
  refine sSeq (rRunS [] [(3, .int .i64 0), (2, .pointer none)] [] (by kernel_rfl) (sSeq (sReg ?_)))
  refine lCallP [] (c_new8 W base) (by kernel_rfl) (by kernel_rfl) (by kernel_rfl) ?_
  rintro ⟨sb, am, cm⟩ -
  refine lRunN 1 [] (fun b1 => [(4, .pointer (some ⟨b1, 0, none⟩))]) (fun b1 => []) (fun b1 => .cells #[.pointer none] 25) (fun b1 => []) (fun b1 => by kernel_rfl) (fun b1 => ?_)
  refine lRunN 3 [(1, 7, 0), (2, 8, 0)] (fun b2 => [(5, .pointer (some ⟨b2, 0, none⟩))]) (fun b2 => [(6, [(b1, .cells #[.pointer (some ⟨sb, 0, none⟩)] 25)])]) (fun b2 => .cells #[.int .i64 0] 3) (fun b2 => [b2, b1]) (fun b2 => by kernel_rfl) (fun b2 => ?_)
  refine lEnd (sSeq (sSeq (sReg (lRunS 1 [] [(12, .slice a m c)] [] (by kernel_rfl) ?_))))
  refine lCallP [] (c_entries W base a m c) (by kernel_rfl) (by kernel_rfl) (by kernel_rfl) ?_
  rintro tb -
  refine lEnd (sBlock ?_)
  refine sPick (its' := [[(tb, .cells #[.slice a m c] 40)], D, [(b1, .cells #[.pointer (some ⟨sb, 0, none⟩)] 25)], [(sb, .cells #[.map (some am), .map (some cm), .slice sdn.a srv0.jr.length sdn.cap, .int .i64 ((srv0.cnt : Nat) : Int)] 82)], [(am, .map (mkM Value.string (alM srv0.acc 0)) srv0.acc.length)], [(cm, .map (mkM (Value.int .i64) (clM srv0.cli 0)) srv0.cli.length)], SD.blk 5 encByte sdn srv0.jr, [(b2, .cells #[.int .i64 0] 3)], F]) [0, 5, 7, 1, 2, 3, 4, 8, 6] (by kernel_rfl) (by kernel_rfl) ?_
  refine sRangeIt2 (β := Nat) (I0 := [[(tb, .cells #[.slice a m c] 40)], D]) (Rs := [F]) (c_entries1 W base tb a m c bs hA hm hmc hmx) (fun (x_ : Srv × Nat × SD) => match x_ with | (s, e, dj) => [[(b1, .cells #[.pointer (some ⟨sb, 0, none⟩)] 25)], [(sb, .cells #[.map (some am), .map (some cm), .slice dj.a s.jr.length dj.cap, .int .i64 ((s.cnt : Nat) : Int)] 82)], [(am, .map (mkM Value.string (alM s.acc 0)) s.acc.length)], [(cm, .map (mkM (Value.int .i64) (clM s.cli 0)) s.cli.length)], SD.blk 5 encByte dj s.jr, [(b2, .cells #[.int .i64 (e : Int)] 3)]]) (fun (rs : List (Nat × Req)) => fun (x_ : Srv × Nat × SD) => match x_ with | (s, e, dj) => recJ rs s e dj) (fun (rs : List (Nat × Req)) (cd : Code) => fun (x_ : Srv × Nat × SD) => match x_ with | (s, e, dj) => cd = .exit 0 ∧ dj.ok 1 s.jr.length ∧ ∀ t, recE (rs ++ t) (srv0, 0) = (s, e)) (fun (c_ : Nat × Req) (b3 : Nat) => match c_ with | (p, r) => [(15, .agg #[.int .i64 r.client, .int .i64 r.seq, .string r.key, .int .i64 r.amount]), (14, .int .i64 (p : Int)), (13, .func (.func 47) #[] #[.pointer (some ⟨tb, 0, none⟩)]), (12, .slice a m c), (11, .pointer (some ⟨sb, 0, none⟩)), (7, .pointer (some ⟨b3, 0, none⟩)), (6, .int .i64 (p : Int)), (5, .pointer (some ⟨b2, 0, none⟩)), (4, .pointer (some ⟨b1, 0, none⟩)), (3, .int .i64 0), (2, .pointer none), (0, .slice a m c)]) (fun (c_ : Nat × Req) (b3 : Nat) => match c_ with | (p, r) => [(b3, .cells #[.int .i64 r.client, .int .i64 r.seq, .string r.key, .int .i64 r.amount] 30)]) (srv0, 0, sdn) ⟨rfl, fun l1 y l2 h => by simp at h, SD.ok_nil 1⟩ rfl (by kernel_rfl) (fun _ _ => rfl) (by kernel_rfl) (fun _ => rfl) ?_ ?_ ?_ ?_
  · rintro l rs ⟨p, r⟩ ⟨s, e, dj⟩ G hJ hpre
    refine sSeq (rRunS [] [(6, .int .i64 (p : Int))] [] (by kernel_rfl) ?_)
    refine rRunN [(1, 8, 0)] (fun b4 => [(7, .pointer (some ⟨b4, 0, none⟩))]) (fun b4 => []) (fun b4 => .cells #[.int .i64 r.client, .int .i64 r.seq, .string r.key, .int .i64 r.amount] 30) (fun b4 => [b4, b4, b4, b4]) (fun b4 => by kernel_rfl) (fun b4 => ?_)
    exact sTillN b4 (by kernel_rfl) (fun _ h => h)
  · rintro l rs ⟨p, r⟩ ⟨s, e, dj⟩ G b3 hJ hpre
    have hso := recJ_ok hJ
    have hrq := entL_seq bs.length bs 0 (p, r) (by obtain ⟨t, ht⟩ := hpre; rw [ht]; simp)
    refine sBlock (sSeq (sSeq (sReg (lRunS 2 [(0, 1, 0), (1, 8, 0)] [(18, .agg #[.int .i64 r.client, .int .i64 r.seq, .string r.key, .int .i64 r.amount]), (17, .pointer (some ⟨sb, 0, none⟩))] [b3, b3, b3, b3, b1] (by kernel_rfl) ?_))))
    refine lCallP [1, 2, 3, 4] (c_do W base sb am cm dj s r hrq hso hJ.2.2) (by kernel_rfl) (by kernel_rfl) (by kernel_rfl) ?_
    rintro dj2 hdj2
    refine lOv (v := .tuple #[.int .i64 (doV s r), .bool (doB s r), .int .i64 (doE s r)]) (v0 := resV s r) 19 rfl (by kernel_rfl) (lRunS 7 [] [(10, .int .i64 (doE s r)), (9, .bool (doB s r)), (8, .int .i64 (doV s r)), (22, .int .i64 (doE s r)), (21, .bool (doB s r)), (20, .int .i64 (doV s r)), (16, .tuple #[.int .i64 (doV s r), .bool (doB s r), .int .i64 (doE s r)])] [] (by kernel_rfl) (lEnd (sSeq (sReg (lRunS 3 [] [(25, .bool (!(decide ((doE s r) = (0 : Int))))), (24, .bool (!(decide ((doE s r) = (0 : Int))))), (23, .int .i64 (doE s r))] [] (by kernel_rfl) ?_)))))
    rcases Classical.em (doE s r = 0) with he1 | he1
    · refine lOv (v := .bool false) (v0 := .bool (!(decide ((doE s r) = (0 : Int))))) 25 (congrArg Value.bool (by simp [he1])) (by kernel_rfl) (lRunS 2 [] [(27, .bool (!(doB s r))), (26, .bool (doB s r))] [] (by kernel_rfl) ?_)
      rcases Classical.em (doB s r = true) with hb1 | hb1
      · refine lOv (v := .bool false) (v0 := .bool (!(doB s r))) 27 (congrArg Value.bool (by simp [hb1])) (by kernel_rfl) (lRunS 1 [] [(28, .bool false)] [] (by kernel_rfl) (lEnd (sIfF (by kernel_rfl) (sSkip (rRunU [(1, 6, 0)] [(29, .int .i64 (p : Int))] [(5, [(b2, .cells #[.int .i64 (p : Int)] 3)])] [b2] (by kernel_rfl) ?_)))))
        refine sEnd ?_
        exact sNil (rqN (doS s r, p, dj2) (recJ_snoc hJ (doE_B.1 ⟨by first | assumption | omega, by first | assumption | simpa using hb1⟩) hdj2) (fun _ h => h.pick [4, 0, 1, 2, 3, 5, 6] (by kernel_rfl) (by kernel_rfl)))
      · refine lOv (v := .bool true) (v0 := .bool (!(doB s r))) 27 (congrArg Value.bool (by simp [hb1])) (by kernel_rfl) (lRunS 1 [] [(28, .bool true)] [] (by kernel_rfl) (lEnd (sIfT (by kernel_rfl) ?_)))
        have hk : doK s r ≠ 6 := fun h => hb1 (doE_B.2 h).2
        have hS : doS s r = s := by unfold doS; rw [if_neg hk]
        refine sExitOut (by kernel_rfl) ?_
        refine wfRe (its' := [[(sb, .cells #[.map (some am), .map (some cm), .slice dj2.a s.jr.length dj2.cap, .int .i64 ((s.cnt : Nat) : Int)] 82)], [(am, .map (mkM Value.string (alM s.acc 0)) s.acc.length)], [(cm, .map (mkM (Value.int .i64) (clM s.cli 0)) s.cli.length)], SD.blk 5 encByte dj2 s.jr, [(b1, .cells #[.pointer (some ⟨sb, 0, none⟩)] 25)], [(b2, .cells #[.int .i64 (e : Int)] 3)], G, [(b3, .cells #[.int .i64 r.client, .int .i64 r.seq, .string r.key, .int .i64 r.amount] 30)]]) (by rw [hS] <;> rfl) ?_
        exact rqX (s, e, dj2) ⟨rfl, hS ▸ hdj2, fun t => recJ_stop hJ hk t⟩ (fun _ h => h.pick [4, 0, 1, 2, 3, 5, 6] (by kernel_rfl) (by kernel_rfl))
    · refine lOv (v := .bool true) (v0 := .bool (!(decide ((doE s r) = (0 : Int))))) 25 (congrArg Value.bool (by simp [he1])) (by kernel_rfl) (lRunS 3 [] [(28, .bool true), (27, undef), (26, undef)] [] (by kernel_rfl) (lEnd (sIfT (by kernel_rfl) ?_)))
      have hk : doK s r ≠ 6 := fun h => he1 (doE_B.2 h).1
      have hS : doS s r = s := by unfold doS; rw [if_neg hk]
      refine sExitOut (by kernel_rfl) ?_
      refine wfRe (its' := [[(sb, .cells #[.map (some am), .map (some cm), .slice dj2.a s.jr.length dj2.cap, .int .i64 ((s.cnt : Nat) : Int)] 82)], [(am, .map (mkM Value.string (alM s.acc 0)) s.acc.length)], [(cm, .map (mkM (Value.int .i64) (clM s.cli 0)) s.cli.length)], SD.blk 5 encByte dj2 s.jr, [(b1, .cells #[.pointer (some ⟨sb, 0, none⟩)] 25)], [(b2, .cells #[.int .i64 (e : Int)] 3)], G, [(b3, .cells #[.int .i64 r.client, .int .i64 r.seq, .string r.key, .int .i64 r.amount] 30)]]) (by rw [hS] <;> rfl) ?_
      exact rqX (s, e, dj2) ⟨rfl, hS ▸ hdj2, fun t => recJ_stop hJ hk t⟩ (fun _ h => h.pick [4, 0, 1, 2, 3, 5, 6] (by kernel_rfl) (by kernel_rfl))
  · rintro D5 ⟨s, e, dj⟩ hJ
    have hfin : recM bs = (s, e) := by rw [recM_E]; exact hJ.1
    have hdj := hJ.2.2
    refine sEnd (sSeq (rQuiet (by kernel_rfl) (by kernel_rfl) (qRun 4 [(0, 3, 0), (1, 8, 0)] [(3, .int .i64 (e : Int)), (2, .pointer (some ⟨sb, 0, none⟩)), (31, .int .i64 (e : Int)), (30, .pointer (some ⟨sb, 0, none⟩))] [b2, b1] (by kernel_rfl) (qEnd (sRet ?_)))))
    obtain rfl : s = (recM bs).1 := by rw [hfin]
    obtain rfl : e = (recM bs).2 := by rw [hfin]
    exact wRetC (Ds := (D5 :: [])) (sb, am, cm, dj) (0, 0) [] (.tuple #[.pointer (some ⟨sb, 0, none⟩), .int .i64 ((recM bs).2 : Int)]) [.tmp 2, .tmp 3] [[(tb, .cells #[.slice a m c] 40)], D, [(b1, .cells #[.pointer (some ⟨sb, 0, none⟩)] 25)], [(sb, .cells #[.map (some am), .map (some cm), .slice dj.a (((recM bs).1).jr.length) dj.cap, .int .i64 ((((recM bs).1).cnt : Nat) : Int)] 82)], [(am, .map (mkM Value.string (alM ((recM bs).1).acc 0)) (((recM bs).1).acc.length))], [(cm, .map (mkM (Value.int .i64) (clM ((recM bs).1).cli 0)) (((recM bs).1).cli.length))], SD.blk 5 encByte dj (((recM bs).1).jr), [(b2, .cells #[.int .i64 ((recM bs).2 : Int)] 3)], F] rfl rfl (by kernel_rfl) rfl hdj (fun _ h => (h.pick [9, 0, 1, 2, 3, 4, 5, 6, 7, 8] (by kernel_rfl) (by kernel_rfl) : SatI W _ ([[(D5, .deferred (some []))], [(tb, .cells #[.slice a m c] 40)], D, [(b1, .cells #[.pointer (some ⟨sb, 0, none⟩)] 25)], [(sb, .cells #[.map (some am), .map (some cm), .slice dj.a (((recM bs).1).jr.length) dj.cap, .int .i64 ((((recM bs).1).cnt : Nat) : Int)] 82)], [(am, .map (mkM Value.string (alM ((recM bs).1).acc 0)) (((recM bs).1).acc.length))], [(cm, .map (mkM (Value.int .i64) (clM ((recM bs).1).cli 0)) (((recM bs).1).cli.length))], SD.blk 5 encByte dj (((recM bs).1).jr), [(b2, .cells #[.int .i64 ((recM bs).2 : Int)] 3)], F])).re (by simp [dI])) (fun _ h => h.pick [3, 4, 5, 6, 1, 8] (by kernel_rfl) (by kernel_rfl))
  · rintro D5 ⟨s, e, dj⟩ cd rs1 rs2 hxs ⟨rfl, hdj, hK⟩
    have hfin : recM bs = (s, e) := by rw [recM_E, hxs]; exact hK rs2
    refine sExit (by kernel_rfl) (sSeq (rQuiet (by kernel_rfl) (by kernel_rfl) (qRun 4 [(0, 3, 0), (1, 8, 0)] [(3, .int .i64 (e : Int)), (2, .pointer (some ⟨sb, 0, none⟩)), (31, .int .i64 (e : Int)), (30, .pointer (some ⟨sb, 0, none⟩))] [b2, b1] (by kernel_rfl) (qEnd (sRet ?_)))))
    obtain rfl : s = (recM bs).1 := by rw [hfin]
    obtain rfl : e = (recM bs).2 := by rw [hfin]
    exact wRetC (Ds := (D5 :: [])) (sb, am, cm, dj) (0, 0) [] (.tuple #[.pointer (some ⟨sb, 0, none⟩), .int .i64 ((recM bs).2 : Int)]) [.tmp 2, .tmp 3] [[(tb, .cells #[.slice a m c] 40)], D, [(b1, .cells #[.pointer (some ⟨sb, 0, none⟩)] 25)], [(sb, .cells #[.map (some am), .map (some cm), .slice dj.a (((recM bs).1).jr.length) dj.cap, .int .i64 ((((recM bs).1).cnt : Nat) : Int)] 82)], [(am, .map (mkM Value.string (alM ((recM bs).1).acc 0)) (((recM bs).1).acc.length))], [(cm, .map (mkM (Value.int .i64) (clM ((recM bs).1).cli 0)) (((recM bs).1).cli.length))], SD.blk 5 encByte dj (((recM bs).1).jr), [(b2, .cells #[.int .i64 ((recM bs).2 : Int)] 3)], F] rfl rfl (by kernel_rfl) rfl hdj (fun _ h => (h.pick [9, 0, 1, 2, 3, 4, 5, 6, 7, 8] (by kernel_rfl) (by kernel_rfl) : SatI W _ ([[(D5, .deferred (some []))], [(tb, .cells #[.slice a m c] 40)], D, [(b1, .cells #[.pointer (some ⟨sb, 0, none⟩)] 25)], [(sb, .cells #[.map (some am), .map (some cm), .slice dj.a (((recM bs).1).jr.length) dj.cap, .int .i64 ((((recM bs).1).cnt : Nat) : Int)] 82)], [(am, .map (mkM Value.string (alM ((recM bs).1).acc 0)) (((recM bs).1).acc.length))], [(cm, .map (mkM (Value.int .i64) (clM ((recM bs).1).cli 0)) (((recM bs).1).cli.length))], SD.blk 5 encByte dj (((recM bs).1).jr), [(b2, .cells #[.int .i64 ((recM bs).2 : Int)] 3)], F])).re (by simp [dI])) (fun _ h => h.pick [3, 4, 5, 6, 1, 8] (by kernel_rfl) (by kernel_rfl))

end Go.Proofs.YtljfjiaiachbfaaDoor
