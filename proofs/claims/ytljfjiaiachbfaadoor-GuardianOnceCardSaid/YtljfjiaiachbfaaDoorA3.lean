/- The walks of short, NewServer, Value and Last. -/
import Derived.Test.YtljfjiaiachbfaaDoorProg
import Derived.Test.YtljfjiaiachbfaaDoorM2
namespace Go.Proofs.YtljfjiaiachbfaaDoor
open Go.Sx Go.Sx.Gd
set_option maxRecDepth 100000
set_option linter.unusedSimpArgs false
set_option linter.unusedVariables false
def bigI : List Req → Int
  | [] => -1
  | r :: l => if r.key.size > 200 then 0 else if bigI l < 0 then -1 else bigI l + 1
theorem bigI_none {l : List Req} (h : ∀ y ∈ l, ¬ y.key.size > 200) : bigI l = -1 := by
  induction l with
  | nil => rfl
  | cons x l ih => rw [bigI, if_neg (h x (by simp)), ih (fun y hy => h y (by simp [hy]))]; rfl
theorem bigI_some {l : List Req} : ∀ {i : Nat} {x : Req}, (∀ y ∈ l.take i, ¬ y.key.size > 200) → l[i]? = some x → x.key.size > 200 → bigI l = (i : Int) := by
  induction l with
  | nil => intro i x _ h; simp at h
  | cons y l ih =>
    intro i x h hx hb
    cases i with
    | zero => simp only [List.getElem?_cons_zero, Option.some.injEq] at hx; subst hx; rw [bigI, if_pos hb]; rfl
    | succ i =>
      rw [bigI, if_neg (h y (by simp)), ih (fun z hz => h z (by simp only [List.take_succ_cons, List.mem_cons]; exact .inr hz)) (by simpa using hx) hb, if_neg (by omega)]
      rfl
def shortB (l : List Req) : Bool := bif decide ((l.length : Int) ≤ 60) then !decide (bigI l ≥ (0 : Int)) else false
theorem shortB_len {l : List Req} (h : shortB l = true) : l.length ≤ 60 := by
  unfold shortB at h
  by_cases h1 : (l.length : Int) ≤ 60
  · omega
  · rw [decide_eq_false h1] at h; cases h
theorem take_ne {α : Type} {p : α → Prop} {l : List α} {i : Nat} {x : α} (h : ∀ y ∈ l.take i, p y) (hx : l[i]? = some x) (hp : p x) : ∀ y ∈ l.take (i + 1), p y := by
  intro y hy
  rw [List.take_add_one, hx] at hy
  simp only [Option.toList_some, List.mem_append, List.mem_singleton] at hy
  rcases hy with hy | rfl
  · exact h y hy
  · exact hp
theorem take_all {α : Type} {p : α → Prop} {l : List α} {i : Nat} (h : ∀ y ∈ l.take i, p y) (hi : l.length ≤ i) : ∀ y ∈ l, p y := by
  intro y hy; rw [List.take_of_length_le hi] at h; exact h y hy
def cliI : List (Req × Int) → Int → Int
  | [], _ => -1
  | x :: l, n => if x.1.client = n then 0 else if cliI l n < 0 then -1 else cliI l n + 1
theorem cliI_none {l : List (Req × Int)} {n : Int} (h : ∀ y ∈ l, ¬ y.1.client = n) : cliI l n = -1 := by
  induction l with
  | nil => rfl
  | cons x l ih => rw [cliI, if_neg (h x (by simp)), ih (fun y hy => h y (by simp [hy]))]; rfl
theorem cliI_some {l : List (Req × Int)} {n : Int} : ∀ {i : Nat} {x : Req × Int}, (∀ y ∈ l.take i, ¬ y.1.client = n) → l[i]? = some x → x.1.client = n → cliI l n = (i : Int) := by
  induction l with
  | nil => intro i x _ h; simp at h
  | cons y l ih =>
    intro i x h hx hb
    cases i with
    | zero => simp only [List.getElem?_cons_zero, Option.some.injEq] at hx; subst hx; rw [cliI, if_pos hb]; rfl
    | succ i =>
      rw [cliI, if_neg (h y (by simp)), ih (fun z hz => h z (by simp only [List.take_succ_cons, List.mem_cons]; exact .inr hz)) (by simpa using hx) hb, if_neg (by omega)]
      rfl
theorem cliI_spec (l : List (Req × Int)) (n : Int) : (cliI l n = -1 ∧ cliO l n = none) ∨ ∃ (i : Nat) (x : Req × Int), cliI l n = (i : Int) ∧ l[i]? = some x ∧ cliO l n = some x ∧ ∀ r v, r.client = n → l.set i (r, v) = cliSet l r v := by
  induction l with
  | nil => exact .inl ⟨rfl, rfl⟩
  | cons y l ih =>
    simp only [cliI, cliO]
    by_cases h : y.1.client = n
    · refine .inr ⟨0, y, by rw [if_pos h]; rfl, rfl, by rw [if_pos h.symm], fun r v hr => ?_⟩
      simp only [cliSet, List.set_cons_zero]; rw [if_pos (hr.trans h.symm)]
    · have hc : ¬ n = y.1.client := fun e => h e.symm
      rw [if_neg h, if_neg hc]
      rcases ih with ⟨h1, h2⟩ | ⟨i, x, h1, h2, h3, h4⟩
      · exact .inl ⟨by rw [h1, if_pos (by omega)], h2⟩
      · refine .inr ⟨i + 1, x, by rw [h1, if_neg (by omega)]; rfl, by simpa using h2, h3, fun r v hr => ?_⟩
        have hc2 : ¬ r.client = y.1.client := fun e => h (e.symm.trans hr)
        simp only [cliSet, List.set_cons_succ]; rw [if_neg hc2, h4 r v hr]
theorem cliI_lt {l : List (Req × Int)} {i : Nat} {x : Req × Int} (h : l[i]? = some x) : i < l.length := (List.getElem?_eq_some_iff.1 h).1
theorem accO_none' {l : List (ByteArray × Int)} {k : ByteArray} (h : ∀ y ∈ l, ¬ y.1 = k) : accO l k = none := by
  induction l with
  | nil => rfl
  | cons x l ih => rw [accO, if_neg (fun e => h x (by simp) e.symm), ih (fun y hy => h y (by simp [hy]))]
theorem accO_some' {l : List (ByteArray × Int)} {k : ByteArray} : ∀ {i : Nat} {x : ByteArray × Int}, (∀ y ∈ l.take i, ¬ y.1 = k) → l[i]? = some x → x.1 = k → accO l k = some x.2 := by
  induction l with
  | nil => intro i x _ h; simp at h
  | cons y l ih =>
    intro i x h hx hb
    cases i with
    | zero => simp only [List.getElem?_cons_zero, Option.some.injEq] at hx; subst hx; rw [accO, if_pos hb.symm]
    | succ i =>
      rw [accO, if_neg (fun e => h y (by simp) e.symm)]
      exact ih (fun z hz => h z (by simp only [List.take_succ_cons, List.mem_cons]; exact .inr hz)) (by simpa using hx) hb

theorem c_big (W : World) (base : List Blk) (r : Req) : CP Tryd.prog W base 23 #[.agg #[.int .i64 r.client, .int .i64 r.seq, .string r.key, .int .i64 r.amount]] [] (.bool (decide ((r.key.size : Int) > 200))) := by
  intro F
  refine ctIntro Tryd.func23 rfl rfl (by kernel_rfl) ?_
  refine sSeq ?_
  refine rRunN [] (fun b1 => [(2, .bool false), (1, .pointer (some ⟨b1, 0, none⟩))]) (fun b1 => []) (fun b1 => .cells #[.int .i64 r.client, .int .i64 r.seq, .string r.key, .int .i64 r.amount] 30) (fun b1 => []) (fun b1 => by kernel_rfl) (fun b1 => ?_)
  refine sSeq (rRunS [(1, 2, 0)] [(2, .bool (decide ((r.key.size : Int) > (200 : Int)))), (6, .bool (decide ((r.key.size : Int) > (200 : Int)))), (5, .int .i64 (r.key.size : Int)), (4, .string r.key), (3, .pointer (some ⟨b1, 2, none⟩))] [b1] (by kernel_rfl) (sRet ?_))
  exact wRet () (0, 0) [] (.bool (decide ((r.key.size : Int) > (200 : Int)))) [.tmp 2] rfl (by kernel_rfl) rfl trivial (fun _ h => h.pick [0] (by kernel_rfl) (by kernel_rfl))

theorem c_index (W : World) (base : List Blk) (al : Option Addr) (ac : Nat) (l : List Req) (hB : BS W encReq al l) (hn : l.length ≤ 9223372036854775807) :
    CP Tryd.prog W base 36 #[.slice al l.length ac, .func (.func 23) #[] #[]] [] (.int .i64 (bigI l)) := by
  intro F
  refine ctIntro Tryd.func36 rfl rfl (by kernel_rfl) ?_
  refine sSeq (rRunS [] [(4, .int .i64 0)] [] (by kernel_rfl) (sSeq (sSeq (rRunS [] [(8, .int .i64 0), (7, .int .i64 (l.length : Int)), (6, .slice al l.length ac)] [] (by kernel_rfl) (sBlock ?_)))))
  refine sLoop (fun (i : Nat) => [(8, .int .i64 (i : Int)), (7, .int .i64 (l.length : Int)), (1, .func (.func 23) #[] #[]), (0, .slice al l.length ac)]) (fun (i : Nat) => [F]) (fun (i : Nat) => i ≤ l.length ∧ ∀ y ∈ l.take i, ¬ y.key.size > 200) (fun (i : Nat) => l.length - i) 0 ⟨by omega, by simp⟩ (by kernel_rfl) rfl ?_
  rintro i ⟨hi, hI⟩
  refine sSeq (rRunS [] [(9, .bool (decide ((i : Int) < (l.length : Int))))] [] (by kernel_rfl) (sSeq ?_))
  refine sIfP (bpD ((i : Int) < (l.length : Int))) (by kernel_rfl) (fun h1 => ?_) (fun h1 => ?_)
  · refine sSkip (sSeq (sBlock (sSeq (rRunS [] [(5, .int .i64 (i : Int)), (10, .int .i64 (i : Int))] [] (by kernel_rfl) (sSeq ?_)))))
    refine sReg (lRunS 3 [] [(13, .int .i64 (i : Int)), (12, .slice al l.length ac), (11, .func (.func 23) #[] #[])] [] (by kernel_rfl) ?_)
    obtain ⟨b1, ob1, hab1, hcb1⟩ := BS.some hB (by omega)
    refine lR (u := .pointer (some ⟨b1, ob1 + i * 4, none⟩)) (runIndexD (T := 22) (E := 30) (n := l.length) (c := ac) (b := b1) (o := ob1) (k := 4) (ik := .i64) i hab1 (by kernel_rfl) (by kernel_rfl) (by omega)) (by kernel_rfl) (by kernel_rfl) (by kernel_rfl) ?_
    obtain ⟨x2, hx2⟩ : ∃ x, l[i]? = some x := ⟨_, List.getElem?_eq_getElem (by (try simp only [List.length_set, List.length_append, List.length_replicate, List.length_cons, List.length_nil]); omega)⟩
    refine lR (u := .agg #[.int .i64 x2.client, .int .i64 x2.seq, .string x2.key, .int .i64 x2.amount]) (runLoadBS (f := encReq) (T := 30) (k := 4) (fun _ => rfl) hcb1 hx2 (by kernel_rfl) (by kernel_rfl)) (by kernel_rfl) (by kernel_rfl) (by kernel_rfl) ?_
    refine lCallR [] [0] (c_big W base x2) (by kernel_rfl) (by kernel_rfl) (by kernel_rfl) (by kernel_rfl) (by kernel_rfl) (lEnd ?_)
    refine sIfP (bpD ((x2.key.size : Int) > 200)) (by kernel_rfl) (fun h2 => ?_) (fun h2 => ?_)
    · refine sSeq (rRunS [] [(4, .int .i64 (i : Int)), (17, .int .i64 (i : Int))] [] (by kernel_rfl) (sRet ?_))
      exact wRet () (0, 0) [] (.int .i64 (i : Int)) [.tmp 4] rfl (by kernel_rfl) (congrArg (Value.int .i64) (bigI_some hI hx2 (by omega)).symm) trivial (fun _ h => h)
    · refine sSkip (sEnd (sReg (lRunS 1 [] [(18, .int .i64 (IntKind.i64.wrap ((i : Int) + 1)))] [] (by kernel_rfl) (lOv 18 (iw (x := (i : Int) + 1) (by omega)) (by kernel_rfl) (lRunS 1 [] [(8, .int .i64 ((i : Int) + 1))] [] (by kernel_rfl) ?_)))))
      refine lEnd ?_
      exact sAgain (i + 1) ⟨by omega, take_ne hI hx2 (by omega)⟩ (by first | omega | (simp only []; omega)) (by kernel_rfl) rfl
  · refine sExit (by kernel_rfl) (sSeq (rRunS [] [(4, .int .i64 (-1))] [] (by kernel_rfl) (sRet ?_)))
    exact wRet () (0, 0) [] (.int .i64 (-1)) [.tmp 4] rfl (by kernel_rfl) (congrArg (Value.int .i64) (bigI_none (take_all hI (by omega))).symm) trivial (fun _ h => h)

theorem c_contains (W : World) (base : List Blk) (al : Option Addr) (ac : Nat) (l : List Req) (hB : BS W encReq al l) (hn : l.length ≤ 9223372036854775807) :
    CP Tryd.prog W base 22 #[.slice al l.length ac, .func (.func 23) #[] #[]] [] (.bool (decide (bigI l ≥ (0 : Int)))) := by
  intro F
  refine ctIntro Tryd.func22 rfl rfl (by kernel_rfl) ?_
  refine sSeq (rRunS [] [(4, .bool false)] [] (by kernel_rfl) (sSeq (sReg (lRunS 2 [] [(6, .func (.func 23) #[] #[]), (5, .slice al l.length ac)] [] (by kernel_rfl) ?_))))
  refine lCallR [] [0] (c_index W base al ac l hB hn) (by kernel_rfl) (by kernel_rfl) (by kernel_rfl) (by kernel_rfl) (by kernel_rfl) (lRunS 2 [] [(4, .bool (decide ((bigI l) ≥ (0 : Int)))), (8, .bool (decide ((bigI l) ≥ (0 : Int))))] [] (by kernel_rfl) (lEnd (sRet ?_)))
  exact wRet () (0, 0) [] (.bool (decide ((bigI l) ≥ (0 : Int)))) [.tmp 4] rfl (by kernel_rfl) rfl trivial (fun _ h => h)

theorem c_short (W : World) (base : List Blk) (al : Option Addr) (ac : Nat) (l : List Req) (hB : BS W encReq al l) (hn : l.length ≤ 9223372036854775807) :
    CP Tryd.prog W base 6 #[.slice al l.length ac] [] (.bool (shortB l)) := by
  intro F
  refine ctIntro Tryd.func6 rfl rfl (by kernel_rfl) ?_
  refine sSeq (rRunS [] [(2, .bool false)] [] (by kernel_rfl) (sSeq (sReg (lRunS 4 [] [(6, .bool (decide ((l.length : Int) ≤ (60 : Int)))), (5, .bool (decide ((l.length : Int) ≤ (60 : Int)))), (4, .int .i64 (l.length : Int)), (3, .slice al l.length ac)] [] (by kernel_rfl) ?_))))
  rcases Classical.em ((l.length : Int) ≤ (60 : Int)) with h | h
  · refine lOv (v := .bool true) (v0 := .bool (decide ((l.length : Int) ≤ (60 : Int)))) 6 (congrArg Value.bool (decide_eq_true h)) (by kernel_rfl) (lRunS 1 [] [(7, .slice al l.length ac)] [] (by kernel_rfl) ?_)
    refine lCallR [] [0] (c_contains W base al ac l hB hn) (by kernel_rfl) (by kernel_rfl) (by kernel_rfl) (by kernel_rfl) (by kernel_rfl) (lRunS 3 [] [(2, .bool (!(decide (bigI l ≥ (0 : Int))))), (10, .bool (!(decide (bigI l ≥ (0 : Int))))), (9, .bool (!(decide (bigI l ≥ (0 : Int)))))] [] (by kernel_rfl) (lEnd (sRet ?_)))
    exact wRet () (0, 0) [] (.bool (!(decide (bigI l ≥ (0 : Int))))) [.tmp 2] rfl (by kernel_rfl) (congrArg Value.bool (by unfold shortB; rw [decide_eq_true h]; rfl)) trivial (fun _ h => h)
  · refine lOv (v := .bool false) (v0 := .bool (decide ((l.length : Int) ≤ (60 : Int)))) 6 (congrArg Value.bool (decide_eq_false h)) (by kernel_rfl) (lRunS 5 [] [(2, .bool false), (10, .bool false), (9, undef), (8, undef), (7, undef)] [] (by kernel_rfl) (lEnd (sRet ?_)))
    exact wRet () (0, 0) [] (.bool false) [.tmp 2] rfl (by kernel_rfl) (congrArg Value.bool (by unfold shortB; rw [decide_eq_false h]; rfl)) trivial (fun _ h => h)

theorem c_new8 (W : World) (base : List Blk) : CF Tryd.prog W base 8 #[] [] (fun x : Nat × Nat × Nat => .pointer (some ⟨x.1, 0, none⟩)) (fun x => [[(x.1, .cells #[.map (some x.2.1), .map (some x.2.2), .slice sdn.a srv0.jr.length sdn.cap, .int .i64 ((srv0.cnt : Nat) : Int)] 82)], [(x.2.1, .map (mkM Value.string (alM srv0.acc 0)) srv0.acc.length)], [(x.2.2, .map (mkM (Value.int .i64) (clM srv0.cli 0)) srv0.cli.length)], SD.blk 5 encByte sdn srv0.jr]) (fun _ => True) := by
  intro F
  refine ctIntro Tryd.func8 rfl rfl (by kernel_rfl) ?_
  refine sSeq (rRunS [] [(0, .pointer none)] [] (by kernel_rfl) (sSeq (sReg ?_)))
  refine lRunN 1 [] (fun b1 => [(1, .map (some b1))]) (fun b1 => []) (fun b1 => .map #[] 0) (fun b1 => []) (fun b1 => by kernel_rfl) (fun b1 => ?_)
  refine lRunN 2 [] (fun b2 => [(3, .agg #[.map (some b1), .map (some b2), .slice none 0 0, .int .i64 0]), (2, .map (some b2))]) (fun b2 => []) (fun b2 => .map #[] 0) (fun b2 => []) (fun b2 => by kernel_rfl) (fun b2 => ?_)
  refine lRunN 2 [] (fun b3 => [(0, .pointer (some ⟨b3, 0, none⟩)), (4, .pointer (some ⟨b3, 0, none⟩))]) (fun b3 => []) (fun b3 => .cells #[.map (some b1), .map (some b2), .slice none 0 0, .int .i64 0] 82) (fun b3 => []) (fun b3 => by kernel_rfl) (fun b3 => ?_)
  refine lEnd (sRet ?_)
  refine wfPick (its' := [[(b3, .cells #[.map (some b1), .map (some b2), .slice none 0 0, .int .i64 0] 82)], [(b1, .map #[] 0)], [(b2, .map #[] 0)], F]) [3, 1, 2, 0] (by kernel_rfl) (by kernel_rfl) ?_
  refine wfRe (its' := [[(b3, .cells #[.map (some b1), .map (some b2), .slice sdn.a srv0.jr.length sdn.cap, .int .i64 ((srv0.cnt : Nat) : Int)] 82)], [(b1, .map (mkM Value.string (alM srv0.acc 0)) srv0.acc.length)], [(b2, .map (mkM (Value.int .i64) (clM srv0.cli 0)) srv0.cli.length)], SD.blk 5 encByte sdn srv0.jr, F]) rfl ?_
  exact wRet (b3, b1, b2) (0, 0) [] (.pointer (some ⟨b3, 0, none⟩)) [.tmp 0] rfl (by kernel_rfl) rfl trivial (fun _ h => h)

theorem c_new9 (W : World) (base : List Blk) : CF Tryd.prog W base 9 #[] [] (fun x : Nat => .pointer (some ⟨x, 0, none⟩)) (fun x => [[(x, .cells #[.slice sdn.a srv0.acc.length sdn.cap, .slice sdn.a srv0.cli.length sdn.cap, .slice sdn.a srv0.jr.length sdn.cap, .int .i64 ((srv0.cnt : Nat) : Int)] 86)], SD.blk 94 encAcc sdn srv0.acc, SD.blk 92 encCli sdn srv0.cli, SD.blk 5 encByte sdn srv0.jr]) (fun _ => True) := by
  intro F
  refine ctIntro Tryd.func9 rfl rfl (by kernel_rfl) ?_
  refine sSeq (rRunS [] [(0, .pointer none)] [] (by kernel_rfl) (sSeq ?_))
  refine rRunN [] (fun b1 => [(0, .pointer (some ⟨b1, 0, none⟩)), (2, .pointer (some ⟨b1, 0, none⟩)), (1, .agg #[.slice none 0 0, .slice none 0 0, .slice none 0 0, .int .i64 0])]) (fun b1 => []) (fun b1 => .cells #[.slice none 0 0, .slice none 0 0, .slice none 0 0, .int .i64 0] 86) (fun b1 => []) (fun b1 => by kernel_rfl) (fun b1 => ?_)
  refine sRet ?_
  refine wfPick (its' := [[(b1, .cells #[.slice none 0 0, .slice none 0 0, .slice none 0 0, .int .i64 0] 86)], F]) [1, 0] (by kernel_rfl) (by kernel_rfl) ?_
  refine wfRe (its' := [[(b1, .cells #[.slice sdn.a srv0.acc.length sdn.cap, .slice sdn.a srv0.cli.length sdn.cap, .slice sdn.a srv0.jr.length sdn.cap, .int .i64 ((srv0.cnt : Nat) : Int)] 86)], SD.blk 94 encAcc sdn srv0.acc, SD.blk 92 encCli sdn srv0.cli, SD.blk 5 encByte sdn srv0.jr, F]) rfl ?_
  exact wRet b1 (0, 0) [] (.pointer (some ⟨b1, 0, none⟩)) [.tmp 0] rfl (by kernel_rfl) rfl trivial (fun _ h => h)

theorem c_value (W : World) (base : List Blk) (sb am cm : Nat) (dj : SD) (s : Srv) (k : ByteArray) : CP Tryd.prog W base 12 #[.pointer (some ⟨sb, 0, none⟩), .string k] [[(sb, .cells #[.map (some am), .map (some cm), .slice dj.a s.jr.length dj.cap, .int .i64 ((s.cnt : Nat) : Int)] 82)], [(am, .map (mkM Value.string (alM s.acc 0)) s.acc.length)], [(cm, .map (mkM (Value.int .i64) (clM s.cli 0)) s.cli.length)], SD.blk 5 encByte dj s.jr] (.int .i64 (accV s.acc k)) := by
  intro F
  refine ctIntro Tryd.func12 rfl rfl (by kernel_rfl) ?_
  refine sSeq (rRunS [] [(4, .int .i64 0)] [] (by kernel_rfl) (sSeq (sSeq (rRunS [] [(6, .bool false), (5, .pointer (some ⟨sb, 0, none⟩))] [] (by kernel_rfl) (sIfF (by kernel_rfl) ?_)))))
  refine sSkip (sSeq (sReg (lRunS 5 [(3, 1, 0)] [(11, .string k), (10, .map (some am)), (9, .pointer (some ⟨sb, 0, none⟩)), (8, .pointer (some ⟨sb, 0, none⟩)), (7, .pointer (some ⟨sb, 0, none⟩))] [sb] (by kernel_rfl) (lR (u := (lkM (alM s.acc 0) k).getD (.int .i64 0)) (runLook (T := 52) (b := am) (K := 9) (E := 2) (l := (alM s.acc 0)) (clk := s.acc.length) (by kernel_rfl) (keyStr (by kernel_rfl)) (.int .i64 0) (by kernel_rfl) (2, 0) k (by kernel_rfl)) (by kernel_rfl) (by kernel_rfl) (by kernel_rfl) (lOv (v := .int .i64 (accV s.acc k)) (v0 := (lkM (alM s.acc 0) k).getD (.int .i64 0)) 12 (alM_val _ _) (by kernel_rfl) ?_)))))
  refine lRunS 1 [] [(4, .int .i64 (accV s.acc k))] [] (by kernel_rfl) (lEnd (sRet ?_))
  exact wRet () (0, 0) [] (.int .i64 (accV s.acc k)) [.tmp 4] rfl (by kernel_rfl) rfl trivial (fun _ h => h)

theorem c_last (W : World) (base : List Blk) (sb am cm : Nat) (dj : SD) (s : Srv) (n : Int) : CP Tryd.prog W base 14 #[.pointer (some ⟨sb, 0, none⟩), .int .i64 n] [[(sb, .cells #[.map (some am), .map (some cm), .slice dj.a s.jr.length dj.cap, .int .i64 ((s.cnt : Nat) : Int)] 82)], [(am, .map (mkM Value.string (alM s.acc 0)) s.acc.length)], [(cm, .map (mkM (Value.int .i64) (clM s.cli 0)) s.cli.length)], SD.blk 5 encByte dj s.jr] (.tuple #[.int .i64 (lastS s n).1.seq, .int .i64 (lastS s n).2]) := by
  intro F
  refine ctIntro Tryd.func14 rfl rfl (by kernel_rfl) ?_
  refine sSeq (rRunS [] [(5, .int .i64 0), (4, .int .i64 0)] [] (by kernel_rfl) (sSeq (sSeq (rRunS [] [(8, .bool false), (7, .pointer (some ⟨sb, 0, none⟩))] [] (by kernel_rfl) (sIfF (by kernel_rfl) ?_)))))
  refine sSkip (sSeq (sReg (lRunS 5 [(3, 1, 0)] [(13, .int .i64 n), (12, .map (some cm)), (11, .pointer (some ⟨sb, 1, none⟩)), (10, .pointer (some ⟨sb, 0, none⟩)), (9, .pointer (some ⟨sb, 0, none⟩))] [sb] (by kernel_rfl) (lR (u := (lkM (clM s.cli 0) n).getD (.agg #[.int .i64 0, .int .i64 0, .string (⟨#[]⟩ : ByteArray), .int .i64 0, .int .i64 0])) (runLook (T := 80) (b := cm) (K := 3) (E := 89) (l := (clM s.cli 0)) (clk := s.cli.length) (by kernel_rfl) (keyInt (k := .i64) (by kernel_rfl)) (.agg #[.int .i64 0, .int .i64 0, .string (⟨#[]⟩ : ByteArray), .int .i64 0, .int .i64 0]) (by kernel_rfl) (3, 0) n (by kernel_rfl)) (by kernel_rfl) (by kernel_rfl) (by kernel_rfl) (lOv (v := .agg #[.int .i64 ((lastS s n).1.client), .int .i64 ((lastS s n).1.seq), .string ((lastS s n).1.key), .int .i64 ((lastS s n).1.amount), .int .i64 ((lastS s n).2)]) (v0 := (lkM (clM s.cli 0) n).getD (.agg #[.int .i64 0, .int .i64 0, .string (⟨#[]⟩ : ByteArray), .int .i64 0, .int .i64 0])) 14 (clM_val _ _) (by kernel_rfl) ?_)))))
  refine lRunN 2 [(1, 6, 0)] (fun b1 => [(6, .pointer (some ⟨b1, 0, none⟩))]) (fun b1 => []) (fun b1 => .cells #[.int .i64 ((lastS s n).1.client), .int .i64 ((lastS s n).1.seq), .string ((lastS s n).1.key), .int .i64 ((lastS s n).1.amount), .int .i64 ((lastS s n).2)] 89) (fun b1 => [b1, b1, b1, b1, b1]) (fun b1 => by kernel_rfl) (fun b1 => ?_)
  refine lEnd (sSeq (rQuiet (by kernel_rfl) (by kernel_rfl) (qRun 7 [(2, 6, 0), (4, 6, 0)] [(5, .int .i64 ((lastS s n).2)), (4, .int .i64 ((lastS s n).1.seq)), (19, .int .i64 ((lastS s n).2)), (18, .pointer (some ⟨b1, 4, none⟩)), (17, .int .i64 ((lastS s n).1.seq)), (16, .pointer (some ⟨b1, 1, none⟩)), (15, .pointer (some ⟨b1, 0, none⟩))] [b1, b1] (by kernel_rfl) (qEnd (sRet ?_)))))
  exact wRet () (0, 0) [] (.tuple #[.int .i64 ((lastS s n).1.seq), .int .i64 ((lastS s n).2)]) [.tmp 4, .tmp 5] rfl (by kernel_rfl) rfl trivial (fun _ h => h.pick [0, 1, 2, 3, 4] (by kernel_rfl) (by kernel_rfl))

end Go.Proofs.YtljfjiaiachbfaaDoor
