/- The walks of Names and asked of the reference. -/
import Derived.Test.YtinpojleegfadaaProg
import Derived.Test.YtinpojleegfadaaFz
import Derived.Test.YtinpojleegfadaaE1
namespace Go.Proofs.Ytinpojleegfadaa
open Go.Sx Go.Sx.Fr
set_option maxRecDepth 100000
set_option linter.unusedSimpArgs false
set_option linter.unusedVariables false
theorem opt_cases {α : Type} (o : Option α) : o = none ∨ ∃ j, o = some j := by cases o; exact .inl rfl; exact .inr ⟨_, rfl⟩
theorem dup_iff {ps : List PoolS} : ∀ {nl : List ByteArray} {out : List Nat}, lookL ps nl = some out → ∀ (i j : Nat) (s r : ByteArray), nl[i]? = some s → nl[j]? = some r → (out[i]?.getD 0 = out[j]?.getD 0 ↔ s = r)
  | nl, out, h, i, j, s, r, hi, hj => by
    have key : ∀ {nl : List ByteArray} {out : List Nat}, lookL ps nl = some out → ∀ (i : Nat) (s : ByteArray), nl[i]? = some s → ∃ k, out[i]? = some k ∧ idxOf ps s = some k := by
      intro nl
      induction nl with
      | nil => intro out _ i s h; simp at h
      | cons a l ih =>
        intro out h i s hs
        simp only [lookL] at h
        split at h
        · cases h
        · rename_i k hk
          obtain ⟨o, ho, rfl⟩ := Option.map_eq_some_iff.1 h
          cases i with
          | zero => simp only [List.getElem?_cons_zero, Option.some.injEq] at hs; subst hs; exact ⟨k, rfl, hk⟩
          | succ i => simp only [List.getElem?_cons_succ] at hs; obtain ⟨q, h1, h2⟩ := ih ho i s hs; exact ⟨q, by simpa using h1, h2⟩
    obtain ⟨a, ha, ha2⟩ := key h i s hi
    obtain ⟨b, hb, hb2⟩ := key h j r hj
    rw [ha, hb]
    simp only [Option.getD_some]
    constructor
    · intro e; subst e
      obtain ⟨_, p, hp, hps⟩ := idxOf_some ha2
      obtain ⟨_, q, hq, hqs⟩ := idxOf_some hb2
      rw [hp] at hq; cases hq; rw [← hps, ← hqs]
    · intro e; subst e; rw [ha2] at hb2; cases hb2; rfl
theorem idxN_ge : ∀ {l : List Nat} {v i : Int}, 0 ≤ i → (idxN l v i ≥ 0 ↔ ∃ x ∈ l, v = (x : Int))
  | [], v, i, h => by simp [idxN]
  | x :: l, v, i, h => by
    simp only [idxN]
    split
    · rename_i e; simp [e, h]
    · rename_i e
      rw [idxN_ge (l := l) (by omega)]
      simp [e]
theorem dupAt_iff {ps : List PoolS} {nl : List ByteArray} {out : List Nat} (h : lookL ps nl = some out) {k : Nat} {s : ByteArray} (hk : nl[k]? = some s) : dupAt out k ↔ ∃ q, q < k ∧ nl[q]? = some s := by
  have hl := (lookL_len h).1
  have hkl := (List.getElem?_eq_some_iff.1 hk).1
  unfold dupAt
  rw [idxN_ge (by decide)]
  constructor
  · rintro ⟨x, hx, e⟩
    obtain ⟨q, hq⟩ := List.getElem?_of_mem hx
    rw [List.getElem?_take] at hq
    split at hq
    · rename_i hqk
      obtain ⟨r, hr⟩ : ∃ r, nl[q]? = some r := ⟨_, List.getElem?_eq_getElem (by omega)⟩
      refine ⟨q, hqk, ?_⟩
      rw [← (dup_iff h k q s r hk hr).1 (by rw [hq]; exact Int.ofNat.inj e)] at hr
      exact hr
    · cases hq
  · rintro ⟨q, hqk, hq⟩
    have e := (dup_iff h k q s s hk hq).2 rfl
    obtain ⟨x, hx⟩ : ∃ x, out[q]? = some x := ⟨_, List.getElem?_eq_getElem (by omega)⟩
    refine ⟨x, List.mem_of_getElem? (i := q) (by rw [List.getElem?_take, if_pos hqk]; exact hx), ?_⟩
    rw [e, hx]; rfl

theorem c_rNames (W : World) (base : List Blk) (R : RefS) (T : TabS) (fs : List FrS) (ht : TabOk T fs) (na : Option Addr) (nc : Nat) (nl : List ByteArray) (hB : BS W encStr na nl) (hnl : nl.length < 9223372036854775807) (hnc : nl.length ≤ nc) :
    CP Try.prog W base 44 #[.pointer (some ⟨R.rt, 0, none⟩), .slice na nl.length nc] (refI R T fs) (.int .i64 (askE T.pools nl)) := by
  intro F
  refine ctIntro Try.func44 rfl rfl (by kernel_rfl) ?_
  refine sSeq (rRunS [] [(4, .int .i64 0)] [] (by kernel_rfl) (sSeq (sSeq (rRunS [] [(13, .bool (decide ((nl.length : Int) > (16 : Int)))), (12, .int .i64 (nl.length : Int)), (11, .slice na nl.length nc)] [] (by kernel_rfl) ?_))))
  refine sIfP (bpD ((nl.length : Int) > (16 : Int))) (by kernel_rfl) (fun h1 => ?_) (fun h1 => ?_)
  · refine sSeq (rRunS [] [(4, .int .i64 18)] [] (by kernel_rfl) (sRet ?_))
    have he : askE T.pools nl = 18 := by unfold askE; rw [if_neg (by omega), if_pos (by omega)]
    exact wRet () (0, 0) [] (.int .i64 18) [.tmp 4] rfl (by kernel_rfl) (by rw [he]) trivial (fun _ h => h)
  · refine sSkip (sSeq (sSeq (rRunS [] [(16, .int .i64 0), (15, .int .i64 (nl.length : Int)), (14, .slice na nl.length nc)] [] (by kernel_rfl) (sBlock ?_))))
    refine sLoop (fun (x_ : Nat × List Nat) => match x_ with | (i, out) => [(16, .int .i64 (i : Int)), (15, .int .i64 (nl.length : Int)), (14, .slice na nl.length nc), (1, .slice na nl.length nc), (0, .pointer (some ⟨R.rt, 0, none⟩))]) (fun (x_ : Nat × List Nat) => match x_ with | (i, out) => [[(R.rt, .cells #[.slice (some ⟨R.pb, 0, none⟩) T.pools.length R.pc, .slice (some ⟨R.rb, 0, none⟩) 4096 4096, .slice (some ⟨R.yb, 0, none⟩) 4096 4096] 81)], [(R.pb, .cells (arr encPool T.pools R.pr) 47)], [(R.rb, .cells (arr encInt (refsL fs) []) 3)], [(R.yb, .cells (arr encPg (pagesL fs) []) 71)], F]) (fun (x_ : Nat × List Nat) => match x_ with | (i, out) => i ≤ nl.length ∧ out.length = i ∧ lookL T.pools nl = (lookL T.pools (nl.drop i)).map (out ++ ·)) (fun (x_ : Nat × List Nat) => match x_ with | (i, out) => nl.length - i) (0, []) ⟨by omega, rfl, by simp⟩ (by kernel_rfl) rfl ?_
    rintro ⟨i, out⟩ ⟨hi, hl, hS⟩
    refine sSeq (rRunS [] [(17, .bool (decide ((i : Int) < (nl.length : Int))))] [] (by kernel_rfl) (sSeq ?_))
    refine sIfP (bpD ((i : Int) < (nl.length : Int))) (by kernel_rfl) (fun h2 => ?_) (fun h2 => ?_)
    · refine sSkip (sSeq (sBlock (sSeq (sReg ?_))))
      obtain ⟨b1, ob1, hab1, hcb1⟩ := BS.some hB (by omega)
      refine lR (u := .pointer (some ⟨b1, ob1 + i * 1, none⟩)) (runIndexD (T := 35) (E := 9) (n := nl.length) (c := nc) (b := b1) (o := ob1) (k := 1) (ik := .i64) i hab1 (by kernel_rfl) (by kernel_rfl) (by omega)) (by kernel_rfl) (by kernel_rfl) (by kernel_rfl) ?_
      obtain ⟨x2, hx2⟩ : ∃ x, nl[i]? = some x := ⟨_, List.getElem?_eq_getElem (by (try simp only [List.length_set, List.length_append, List.length_replicate]); omega)⟩
      refine lR (u := .string x2) (runLoadBE1 (f := encStr) (T := 9) (v := .string x2) (fun _ => rfl) hcb1 hx2 rfl (by kernel_rfl)) (by kernel_rfl) (by kernel_rfl) (by kernel_rfl) (lRunS 1 [] [(6, .string x2)] [] (by kernel_rfl) (lEnd (sSeq (sReg (lRunS 2 [] [(21, .string x2), (20, .pointer (some ⟨R.rt, 0, none⟩))] [] (by kernel_rfl) ?_)))))
      refine lCallR [0, 1, 2, 3] [0, 1, 2, 3, 4] (c_rnamed W base R T fs (by have := ht.len; omega) x2) (by kernel_rfl) (by kernel_rfl) (by kernel_rfl) (by kernel_rfl) (by kernel_rfl) ?_
      rcases opt_cases (idxOf T.pools x2) with hj | ⟨j, hj⟩
      · refine lOv (v := .int .i64 (-1)) (v0 := .int .i64 (optI (idxOf T.pools x2))) 22 (congrArg (Value.int .i64) (by rw [hj]; rfl)) (by kernel_rfl) (lRunS 1 [] [(23, .bool true)] [] (by kernel_rfl) (lEnd (sIfT (by kernel_rfl) (sSeq (rRunS [] [(4, .int .i64 22)] [] (by kernel_rfl) ?_)))))
        refine sRet ?_
        have he : askE T.pools nl = 22 := by unfold askE; rw [if_neg (by omega), if_neg (by omega), hS, drop_of hx2]; simp only [lookL, hj]; rfl
        exact wRet () (0, 0) [] (.int .i64 22) [.tmp 4] rfl (by kernel_rfl) (by rw [he]) trivial (fun _ h => h)
      · refine lOv (v := .int .i64 (j : Int)) (v0 := .int .i64 (optI (idxOf T.pools x2))) 22 (congrArg (Value.int .i64) (by rw [hj]; rfl)) (by kernel_rfl) (lRunS 1 [] [(23, .bool (decide ((j : Int) < (0 : Int))))] [] (by kernel_rfl) (lEnd ?_))
        refine sIfP (bpD ((j : Int) < (0 : Int))) (by kernel_rfl) (fun h3 => ?_) (fun h3 => ?_)
        · exfalso; omega
        · refine sSkip (sEnd (sReg (lRunS 1 [] [(24, .int .i64 (IntKind.i64.wrap ((i : Int) + 1)))] [] (by kernel_rfl) (lOv 24 (iw (x := (i : Int) + 1) (by omega)) (by kernel_rfl) (lRunS 1 [] [(16, .int .i64 ((i : Int) + 1))] [] (by kernel_rfl) ?_)))))
          refine lEnd ?_
          exact sAgain (i + 1, out ++ [j]) ⟨by omega, by simp; omega, by rw [hS, drop_of hx2]; simp only [lookL, hj]; cases lookL T.pools (nl.drop (i + 1)) <;> simp⟩ (by first | omega | (simp only []; omega)) (by kernel_rfl) rfl
    · refine sExit (by kernel_rfl) (sSeq (sSeq (rRunS [] [(27, .int .i64 0), (26, .int .i64 (nl.length : Int)), (25, .slice na nl.length nc)] [] (by kernel_rfl) (sBlock ?_))))
      have hlk : lookL T.pools nl = some out := by rw [hS, List.drop_of_length_le (by omega)]; simp [lookL]
      refine sLoop (fun (k : Nat) => [(27, .int .i64 (k : Int)), (26, .int .i64 (nl.length : Int)), (25, .slice na nl.length nc), (1, .slice na nl.length nc), (0, .pointer (some ⟨R.rt, 0, none⟩))]) (fun (k : Nat) => [[(R.rt, .cells #[.slice (some ⟨R.pb, 0, none⟩) T.pools.length R.pc, .slice (some ⟨R.rb, 0, none⟩) 4096 4096, .slice (some ⟨R.yb, 0, none⟩) 4096 4096] 81)], [(R.pb, .cells (arr encPool T.pools R.pr) 47)], [(R.rb, .cells (arr encInt (refsL fs) []) 3)], [(R.yb, .cells (arr encPg (pagesL fs) []) 71)], F]) (fun (k : Nat) => k ≤ nl.length ∧ ∀ q, q < k → ¬ dupAt out q) (fun (k : Nat) => nl.length - k) 0 ⟨by omega, fun q h => by omega⟩ (by kernel_rfl) rfl ?_
      rintro k ⟨hk, hK⟩
      refine sSeq (rRunS [] [(28, .bool (decide ((k : Int) < (nl.length : Int))))] [] (by kernel_rfl) (sSeq ?_))
      refine sIfP (bpD ((k : Int) < (nl.length : Int))) (by kernel_rfl) (fun h4 => ?_) (fun h4 => ?_)
      · refine sSkip (sSeq (sBlock (sSeq (sReg (lRunS 1 [] [(29, .int .i64 (k : Int))] [] (by kernel_rfl) ?_)))))
        obtain ⟨b3, ob3, hab3, hcb3⟩ := BS.some hB (by omega)
        refine lR (u := .pointer (some ⟨b3, ob3 + k * 1, none⟩)) (runIndexD (T := 35) (E := 9) (n := nl.length) (c := nc) (b := b3) (o := ob3) (k := 1) (ik := .i64) k hab3 (by kernel_rfl) (by kernel_rfl) (by omega)) (by kernel_rfl) (by kernel_rfl) (by kernel_rfl) ?_
        obtain ⟨x4, hx4⟩ : ∃ x, nl[k]? = some x := ⟨_, List.getElem?_eq_getElem (by (try simp only [List.length_set, List.length_append, List.length_replicate]); omega)⟩
        refine lR (u := .string x4) (runLoadBE1 (f := encStr) (T := 9) (v := .string x4) (fun _ => rfl) hcb3 hx4 rfl (by kernel_rfl)) (by kernel_rfl) (by kernel_rfl) (by kernel_rfl) (lRunS 2 [] [(8, .string x4), (7, .int .i64 (k : Int))] [] (by kernel_rfl) (lEnd (sSeq (sReg (lRunS 2 [] [(33, .int .i64 (k : Int)), (32, .slice na nl.length nc)] [] (by kernel_rfl) ?_)))))
        refine lR (u := .slice na k nc) (runSliceHi (T := 35) (E := 9) (n := nl.length) (c := nc) (a := na) (ik := .i64) k (by kernel_rfl) (by kernel_rfl) (by omega)) (by kernel_rfl) (by kernel_rfl) (by kernel_rfl) (lRunS 2 [] [(36, .int .i64 0), (35, .int .i64 (k : Int))] [] (by kernel_rfl) (lEnd (sBlock ?_)))
        refine sLoop (fun (j : Nat) => [(36, .int .i64 (j : Int)), (35, .int .i64 (k : Int)), (34, .slice na k nc), (27, .int .i64 (k : Int)), (26, .int .i64 (nl.length : Int)), (25, .slice na nl.length nc), (8, .string x4), (1, .slice na nl.length nc), (0, .pointer (some ⟨R.rt, 0, none⟩))]) (fun (j : Nat) => [[(R.rt, .cells #[.slice (some ⟨R.pb, 0, none⟩) T.pools.length R.pc, .slice (some ⟨R.rb, 0, none⟩) 4096 4096, .slice (some ⟨R.yb, 0, none⟩) 4096 4096] 81)], [(R.pb, .cells (arr encPool T.pools R.pr) 47)], [(R.rb, .cells (arr encInt (refsL fs) []) 3)], [(R.yb, .cells (arr encPg (pagesL fs) []) 71)], F]) (fun (j : Nat) => j ≤ k ∧ ∀ q, q < j → nl[q]? ≠ some x4) (fun (j : Nat) => k - j) 0 ⟨by omega, fun q h => by omega⟩ (by kernel_rfl) rfl ?_
        rintro j ⟨hj, hJ⟩
        refine sSeq (rRunS [] [(37, .bool (decide ((j : Int) < (k : Int))))] [] (by kernel_rfl) (sSeq ?_))
        refine sIfP (bpD ((j : Int) < (k : Int))) (by kernel_rfl) (fun h5 => ?_) (fun h5 => ?_)
        · refine sSkip (sSeq (sBlock (sSeq (sReg (lR (u := .pointer (some ⟨b3, ob3 + j * 1, none⟩)) (runIndexD (T := 35) (E := 9) (n := k) (c := nc) (b := b3) (o := ob3) (k := 1) (ik := .i64) j hab3 (by kernel_rfl) (by kernel_rfl) (by omega)) (by kernel_rfl) (by kernel_rfl) (by kernel_rfl) ?_)))))
          obtain ⟨x5, hx5⟩ : ∃ x, nl[j]? = some x := ⟨_, List.getElem?_eq_getElem (by (try simp only [List.length_set, List.length_append, List.length_replicate]); omega)⟩
          refine lR (u := .string x5) (runLoadBE1 (f := encStr) (T := 9) (v := .string x5) (fun _ => rfl) hcb3 hx5 rfl (by kernel_rfl)) (by kernel_rfl) (by kernel_rfl) (by kernel_rfl) (lRunS 1 [] [(10, .string x5)] [] (by kernel_rfl) (lEnd (sSeq (rRunS [] [(42, .bool (x4.toList == x5.toList)), (41, .string x5), (40, .string x4)] [] (by kernel_rfl) ?_))))
          refine sIfP (bpS x4 x5) (by kernel_rfl) (fun h6 => ?_) (fun h6 => ?_)
          · refine sSeq (rRunS [] [(4, .int .i64 38)] [] (by kernel_rfl) (sRet ?_))
            have he : askE T.pools nl = 38 := by unfold askE; rw [if_neg (by omega), if_neg (by omega), hlk]; simp only []; rw [dupB_yes (k := k) (by have := (lookL_len hlk).1; omega) ((dupAt_iff hlk hx4).2 ⟨j, by omega, h6 ▸ hx5⟩)]; rfl
            exact wRet () (0, 0) [] (.int .i64 38) [.tmp 4] rfl (by kernel_rfl) (by rw [he]) trivial (fun _ h => h)
          · refine sSkip (sEnd (sReg (lRunS 1 [] [(43, .int .i64 (IntKind.i64.wrap ((j : Int) + 1)))] [] (by kernel_rfl) (lOv 43 (iw (x := (j : Int) + 1) (by omega)) (by kernel_rfl) (lRunS 1 [] [(36, .int .i64 ((j : Int) + 1))] [] (by kernel_rfl) ?_)))))
            refine lEnd ?_
            exact sAgain (j + 1) ⟨by omega, fun q hq => (Nat.lt_or_ge q j).elim (hJ q) fun h => (show q = j by omega) ▸ (fun e => by rw [hx5] at e; exact h6 (Option.some.inj e).symm)⟩ (by first | omega | (simp only []; omega)) (by kernel_rfl) rfl
        · refine sExit (by kernel_rfl) (sEnd (sReg (lRunS 1 [] [(44, .int .i64 (IntKind.i64.wrap ((k : Int) + 1)))] [] (by kernel_rfl) (lOv 44 (iw (x := (k : Int) + 1) (by omega)) (by kernel_rfl) (lRunS 1 [] [(27, .int .i64 ((k : Int) + 1))] [] (by kernel_rfl) ?_)))))
          refine lEnd ?_
          exact sAgain (k + 1) ⟨by omega, fun q hq => (Nat.lt_or_ge q k).elim (hK q) fun h => (show q = k by omega) ▸ (fun hd => by obtain ⟨q, h1, h2⟩ := (dupAt_iff hlk hx4).1 hd; exact hJ q (by omega) h2)⟩ (by first | omega | (simp only []; omega)) (by kernel_rfl) rfl
      · refine sExit (by kernel_rfl) (sSeq (rRunS [] [(4, .int .i64 0)] [] (by kernel_rfl) (sRet ?_)))
        have he : askE T.pools nl = 0 := by unfold askE; split; rfl; rw [if_neg (by omega), hlk]; simp only []; rw [dupB_no (fun q hq => hK q (by have := (lookL_len hlk).1; omega))]; rfl
        exact wRet () (0, 0) [] (.int .i64 0) [.tmp 4] rfl (by kernel_rfl) (by rw [he]) trivial (fun _ h => h)

def genP (z : Prop) [Decidable z] : List PoolS → List PoolS
  | [] => []
  | p :: l => if z ∧ p.general = true then p :: genP z l else genP z l
def nameP (ps : List PoolS) : List ByteArray → List PoolS
  | [] => []
  | s :: l => match (idxOf ps s).bind (ps[·]?) with
    | none => nameP ps l
    | some p => p :: nameP ps l
/-- The pools of a request, in order. -/
def askP (ps : List PoolS) (nl : List ByteArray) : List PoolS := genP (nl.length = 0) ps ++ nameP ps nl
theorem genP_len (z : Prop) [Decidable z] : ∀ ps : List PoolS, (genP z ps).length ≤ ps.length
  | [] => Nat.le_refl _
  | p :: l => by have := genP_len z l; simp only [genP]; split <;> simp <;> omega
theorem genP_step (z : Prop) [Decidable z] {ps : List PoolS} {i : Nat} {p : PoolS} (h : ps[i]? = some p) : genP z (ps.drop i) = if z ∧ p.general = true then p :: genP z (ps.drop (i + 1)) else genP z (ps.drop (i + 1)) := by rw [drop_of h]; rfl
theorem nameP_step {ps : List PoolS} {nl : List ByteArray} {i j : Nat} {s : ByteArray} {p : PoolS} (h : nl[i]? = some s) (hj : idxOf ps s = some j) (hp : ps[j]? = some p) : nameP ps (nl.drop i) = p :: nameP ps (nl.drop (i + 1)) := by
  rw [drop_of h]; simp only [nameP, hj, Option.bind_some, hp]

theorem c_rasked (W : World) (base : List Blk) (R : RefS) (T : TabS) (fs : List FrS) (ht : TabOk T fs) (na : Option Addr) (nc : Nat) (nl : List ByteArray) (cnt al : Int) (cg top : Bool) (hB : BS W encStr na nl) (hnl : nl.length ≤ 16) (hnm : ∀ s ∈ nl, ∃ i, idxOf T.pools s = some i) :
    CF Try.prog W base 45 #[.pointer (some ⟨R.rt, 0, none⟩), .agg #[.slice na nl.length nc, .int .i64 cnt, .int .i64 al, .bool cg, .bool top]] (refI R T fs) (fun d : SD => .slice d.a (askP T.pools nl).length d.cap)
      (fun d => refI R T fs ++ [SD.blk 47 encPool d (askP T.pools nl)]) (fun d => d.ok 5 (askP T.pools nl).length) := by
  have htl := ht.len
  intro F
  refine ctIntro Try.func45 rfl rfl (by kernel_rfl) ?_
  refine sSeq ?_
  refine rRunN [] (fun b1 => [(4, .slice none 0 0), (3, .pointer (some ⟨b1, 0, none⟩))]) (fun b1 => []) (fun b1 => .cells #[.slice na nl.length nc, .int .i64 cnt, .int .i64 al, .bool cg, .bool top] 83) (fun b1 => []) (fun b1 => by kernel_rfl) (fun b1 => ?_)
  refine sSeq (rRunS [] [(5, .slice none 0 0)] [] (by kernel_rfl) (sSeq (sSeq (rRunS [(3, 1, 0)] [(15, .int .i64 0), (14, .int .i64 (T.pools.length : Int)), (13, .slice (some ⟨R.pb, 0, none⟩) T.pools.length R.pc), (12, .pointer (some ⟨R.rt, 0, none⟩)), (11, .pointer (some ⟨R.rt, 0, none⟩)), (10, .pointer (some ⟨R.rt, 0, none⟩))] [R.rt] (by kernel_rfl) (sBlock ?_)))))
  refine sNilI ?_
  refine sLoop (fun (x_ : Nat × SD × List PoolS) => match x_ with | (i, d, out) => [(15, .int .i64 (i : Int)), (14, .int .i64 (T.pools.length : Int)), (13, .slice (some ⟨R.pb, 0, none⟩) T.pools.length R.pc), (5, .slice d.a out.length d.cap), (3, .pointer (some ⟨b1, 0, none⟩)), (1, .agg #[.slice na nl.length nc, .int .i64 cnt, .int .i64 al, .bool cg, .bool top]), (0, .pointer (some ⟨R.rt, 0, none⟩))]) (fun (x_ : Nat × SD × List PoolS) => match x_ with | (i, d, out) => [[(R.rt, .cells #[.slice (some ⟨R.pb, 0, none⟩) T.pools.length R.pc, .slice (some ⟨R.rb, 0, none⟩) 4096 4096, .slice (some ⟨R.yb, 0, none⟩) 4096 4096] 81)], [(R.pb, .cells (arr encPool T.pools R.pr) 47)], [(R.rb, .cells (arr encInt (refsL fs) []) 3)], [(R.yb, .cells (arr encPg (pagesL fs) []) 71)], F, [(b1, .cells #[.slice na nl.length nc, .int .i64 cnt, .int .i64 al, .bool cg, .bool top] 83)], SD.blk 47 encPool d out]) (fun (x_ : Nat × SD × List PoolS) => match x_ with | (i, d, out) => i ≤ T.pools.length ∧ d.ok 5 out.length ∧ out.length ≤ i ∧ out ++ genP (nl.length = 0) (T.pools.drop i) = genP (nl.length = 0) T.pools) (fun (x_ : Nat × SD × List PoolS) => match x_ with | (i, d, out) => T.pools.length - i) (0, ⟨none, 0, []⟩, []) ⟨by omega, SD.ok_nil 5, by simp, by simp⟩ (by kernel_rfl) rfl ?_
  rintro ⟨i, d, out⟩ ⟨hi, hd, hl, hS⟩
  refine sSeq (rRunS [] [(16, .bool (decide ((i : Int) < (T.pools.length : Int))))] [] (by kernel_rfl) (sSeq ?_))
  refine sIfP (bpD ((i : Int) < (T.pools.length : Int))) (by kernel_rfl) (fun h1 => ?_) (fun h1 => ?_)
  · refine sSkip (sSeq (sBlock (sSeq (sReg (lR (u := .pointer (some ⟨R.pb, i * 5, none⟩)) (runIndex0 (T := 22) (E := 47) (n := T.pools.length) (c := R.pc) (b := R.pb) (k := 5) (ik := .i64) i (by kernel_rfl) (by kernel_rfl) (by omega)) (by kernel_rfl) (by kernel_rfl) (by kernel_rfl) ?_)))))
    obtain ⟨x2, hx2⟩ : ∃ x, T.pools[i]? = some x := ⟨_, List.getElem?_eq_getElem (by (try simp only [List.length_set, List.length_append, List.length_replicate]); omega)⟩
    refine lR (u := .agg #[.string x2.name, .int .i64 x2.first, .int .i64 x2.count, .bool x2.general, .bool x2.keep]) (runLoadS (f := encPool) (T := 47) (b := R.pb) (k := 5) (T' := 47) (rest := R.pr) (fun _ => rfl) (2, 0) (by kernel_rfl) hx2 (by kernel_rfl) (by kernel_rfl)) (by kernel_rfl) (by kernel_rfl) (by kernel_rfl) ?_
    refine lRunN 2 [(1, 8, 0)] (fun b3 => [(7, .pointer (some ⟨b3, 0, none⟩))]) (fun b3 => []) (fun b3 => .cells #[.string x2.name, .int .i64 x2.first, .int .i64 x2.count, .bool x2.general, .bool x2.keep] 47) (fun b3 => [b3, b3, b3, b3, b3]) (fun b3 => by kernel_rfl) (fun b3 => ?_)
    refine lEnd (sSeq (sReg (lRunS 5 [(1, 6, 0)] [(23, .bool (decide ((nl.length : Int) = (0 : Int)))), (22, .bool (decide ((nl.length : Int) = (0 : Int)))), (21, .int .i64 (nl.length : Int)), (20, .slice na nl.length nc), (19, .pointer (some ⟨b1, 0, none⟩))] [b1] (by kernel_rfl) (lShort 3 [(1, 8, 0)] 23 (decide ((nl.length : Int) = (0 : Int))) 26 x2.general false [(25, .bool x2.general), (24, .pointer (some ⟨b3, 3, none⟩))] [(25, undef), (24, undef)] [b3] [] (by kernel_rfl) (by kernel_rfl) (by kernel_rfl) (by kernel_rfl) (lEnd ?_)))))
    refine sIfP (bpA (bpD ((nl.length : Int) = (0 : Int))) (bpR x2.general)) (by kernel_rfl) (fun h2 => ?_) (fun h2 => ?_)
    · refine sReg ?_
      refine lRunN 3 [(1, 8, 0)] (fun b4 => [(29, .slice (some ⟨b4, 0, none⟩) 1 1), (28, .agg #[.string x2.name, .int .i64 x2.first, .int .i64 x2.count, .bool x2.general, .bool x2.keep]), (27, .slice d.a out.length d.cap)]) (fun b4 => []) (fun b4 => .cells #[.string x2.name, .int .i64 x2.first, .int .i64 x2.count, .bool x2.general, .bool x2.keep] 47) (fun b4 => [b3, b3, b3, b3, b3]) (fun b4 => by kernel_rfl) (fun b4 => ?_)
      refine lX (u := fun d' : SD => .slice d'.a (out.length + 1) d'.cap) (runAppend1 (t := 22) (ty := 22) (b2 := b4) (cs := #[.string x2.name, .int .i64 x2.first, .int .i64 x2.count, .bool x2.general, .bool x2.keep]) (T2 := 47) (k := 5) (e := 47) (by_ := 40) (z := [.string (⟨#[]⟩ : ByteArray), .int .i64 0, .int .i64 0, .bool false, .bool false]) (f := encPool) (fun _ => rfl) d out x2 out.length 6 8 (by kernel_rfl) (by kernel_rfl) rfl rfl (by kernel_rfl) rfl hd (by kernel_rfl) (by kernel_rfl) rfl (by omega) (by omega)) (by kernel_rfl) (by kernel_rfl) (fun _ => by kernel_rfl) ?_
      rintro d5 okd5
      refine lRunS 1 [] [(5, .slice d5.a (out.length + 1) d5.cap)] [] (by kernel_rfl) (lEnd (sEnd (sReg (lRunS 1 [] [(31, .int .i64 (IntKind.i64.wrap ((i : Int) + 1)))] [] (by kernel_rfl) (lOv 31 (iw (x := (i : Int) + 1) (by omega)) (by kernel_rfl) ?_)))))
      refine lRunS 1 [] [(15, .int .i64 ((i : Int) + 1))] [] (by kernel_rfl) (lEnd ?_)
      refine sOv (v := .slice d5.a ((out ++ [x2]).length) d5.cap) (v0 := .slice d5.a (out.length + 1) d5.cap) 5 (congrArg (fun n => Value.slice d5.a n d5.cap) (by simp)) (by kernel_rfl) ?_
      exact sPick [0, 1, 2, 3, 4, 5, 6] (by kernel_rfl) (by kernel_rfl) (sAgain (i + 1, d5, out ++ [x2]) ⟨by omega, by simpa using okd5, by simp; omega, by rw [← hS, genP_step _ hx2, if_pos ⟨by omega, h2.2⟩]; simp⟩ (by first | omega | (simp only []; omega)) (by kernel_rfl) rfl)
    · refine sSkip (sEnd (sReg (lRunS 1 [] [(31, .int .i64 (IntKind.i64.wrap ((i : Int) + 1)))] [] (by kernel_rfl) (lOv 31 (iw (x := (i : Int) + 1) (by omega)) (by kernel_rfl) (lRunS 1 [] [(15, .int .i64 ((i : Int) + 1))] [] (by kernel_rfl) ?_)))))
      refine lEnd ?_
      exact sPick [0, 1, 2, 3, 4, 5, 6] (by kernel_rfl) (by kernel_rfl) (sAgain (i + 1, d, out) ⟨by omega, hd, by omega, by rw [← hS, genP_step _ hx2, if_neg (fun e => h2 ⟨by omega, e.2⟩)]⟩ (by first | omega | (simp only []; omega)) (by kernel_rfl) rfl)
  · refine sExit (by kernel_rfl) (sSeq (sSeq (rRunS [(1, 6, 0)] [(35, .int .i64 0), (34, .int .i64 (nl.length : Int)), (33, .slice na nl.length nc), (32, .pointer (some ⟨b1, 0, none⟩))] [b1] (by kernel_rfl) (sBlock ?_))))
    have hG : out = genP (nl.length = 0) T.pools := by rw [← hS, List.drop_of_length_le (by omega)]; simp [genP]
    refine sLoop (fun (x_ : Nat × SD × List PoolS) => match x_ with | (i2, d2, out2) => [(35, .int .i64 (i2 : Int)), (34, .int .i64 (nl.length : Int)), (33, .slice na nl.length nc), (5, .slice d2.a out2.length d2.cap), (0, .pointer (some ⟨R.rt, 0, none⟩))]) (fun (x_ : Nat × SD × List PoolS) => match x_ with | (i2, d2, out2) => [[(R.rt, .cells #[.slice (some ⟨R.pb, 0, none⟩) T.pools.length R.pc, .slice (some ⟨R.rb, 0, none⟩) 4096 4096, .slice (some ⟨R.yb, 0, none⟩) 4096 4096] 81)], [(R.pb, .cells (arr encPool T.pools R.pr) 47)], [(R.rb, .cells (arr encInt (refsL fs) []) 3)], [(R.yb, .cells (arr encPg (pagesL fs) []) 71)], F, [(b1, .cells #[.slice na nl.length nc, .int .i64 cnt, .int .i64 al, .bool cg, .bool top] 83)], SD.blk 47 encPool d2 out2]) (fun (x_ : Nat × SD × List PoolS) => match x_ with | (i2, d2, out2) => i2 ≤ nl.length ∧ d2.ok 5 out2.length ∧ out2.length ≤ 16 + i2 ∧ out2 ++ nameP T.pools (nl.drop i2) = askP T.pools nl) (fun (x_ : Nat × SD × List PoolS) => match x_ with | (i2, d2, out2) => nl.length - i2) (0, d, out) ⟨by omega, hd, by omega, by rw [hG]; rfl⟩ (by kernel_rfl) rfl ?_
    rintro ⟨i2, d2, out2⟩ ⟨hi2, hd2, hl2, hS2⟩
    refine sSeq (rRunS [] [(36, .bool (decide ((i2 : Int) < (nl.length : Int))))] [] (by kernel_rfl) (sSeq ?_))
    refine sIfP (bpD ((i2 : Int) < (nl.length : Int))) (by kernel_rfl) (fun h3 => ?_) (fun h3 => ?_)
    · refine sSkip (sSeq (sBlock (sSeq (sReg ?_))))
      obtain ⟨b6, ob6, hab6, hcb6⟩ := BS.some hB (by omega)
      refine lR (u := .pointer (some ⟨b6, ob6 + i2 * 1, none⟩)) (runIndexD (T := 35) (E := 9) (n := nl.length) (c := nc) (b := b6) (o := ob6) (k := 1) (ik := .i64) i2 hab6 (by kernel_rfl) (by kernel_rfl) (by omega)) (by kernel_rfl) (by kernel_rfl) (by kernel_rfl) ?_
      obtain ⟨x7, hx7⟩ : ∃ x, nl[i2]? = some x := ⟨_, List.getElem?_eq_getElem (by (try simp only [List.length_set, List.length_append, List.length_replicate]); omega)⟩
      refine lR (u := .string x7) (runLoadBE1 (f := encStr) (T := 9) (v := .string x7) (fun _ => rfl) hcb6 hx7 rfl (by kernel_rfl)) (by kernel_rfl) (by kernel_rfl) (by kernel_rfl) ?_
      obtain ⟨j, hj⟩ := hnm x7 (List.mem_of_getElem? hx7)
      have hjl := (idxOf_some hj).1
      obtain ⟨xp, hxp⟩ : ∃ x, T.pools[j]? = some x := ⟨_, List.getElem?_eq_getElem hjl⟩
      refine lRunS 1 [] [(9, .string x7)] [] (by kernel_rfl) (lEnd ?_)
      refine rHeld (by kernel_rfl) (by kernel_rfl) [[(R.rt, .cells #[.slice (some ⟨R.pb, 0, none⟩) T.pools.length R.pc, .slice (some ⟨R.rb, 0, none⟩) 4096 4096, .slice (some ⟨R.yb, 0, none⟩) 4096 4096] 81)], [(R.pb, .cells (arr encPool T.pools R.pr) 47)], [(R.rb, .cells (arr encInt (refsL fs) []) 3)], [(R.yb, .cells (arr encPg (pagesL fs) []) 71)], F, [(b1, .cells #[.slice na nl.length nc, .int .i64 cnt, .int .i64 al, .bool cg, .bool top] 83)]] ?_
      refine hTakes [0, 1, 2, 3, 4, 5, 6] [(4, 1, 0)] [0, 1, 2, 3, 4, 5] [(45, .string x7), (44, .pointer (some ⟨R.rt, 0, none⟩)), (43, .slice (some ⟨R.pb, 0, none⟩) T.pools.length R.pc), (42, .pointer (some ⟨R.rt, 0, none⟩)), (41, .pointer (some ⟨R.rt, 0, none⟩)), (40, .pointer (some ⟨R.rt, 0, none⟩)), (39, .slice d2.a out2.length d2.cap)] [R.rt] (by kernel_rfl) (by kernel_rfl) (by kernel_rfl) (by kernel_rfl) ?_
      refine hOS 7 [0, 1, 2, 3, 4, 5] (OS.call (by kernel_rfl) (CP.ct (c_rnamed W base R T fs (by omega) x7) [0, 1, 2, 3] [0, 1, 2, 3, 4, 5, 6] (by kernel_rfl) (by kernel_rfl) (by kernel_rfl) (by kernel_rfl))) (by kernel_rfl) (by kernel_rfl) (by kernel_rfl) (fun _ => by kernel_rfl) ?_
      rintro ⟨⟩ -
      refine hOv (v := .int .i64 (j : Int)) (v0 := .int .i64 (optI (idxOf T.pools x7))) 46 (congrArg (Value.int .i64) (by rw [hj]; rfl)) (by kernel_rfl) (hR (u := .pointer (some ⟨R.pb, j * 5, none⟩)) 8 [0, 1, 2, 3, 4, 5] (runIndex0 (T := 22) (E := 47) (n := T.pools.length) (c := R.pc) (b := R.pb) (k := 5) (ik := .i64) j (by kernel_rfl) (by kernel_rfl) (by omega)) (by kernel_rfl) (by kernel_rfl) (by kernel_rfl) (by kernel_rfl) (by kernel_rfl) (by kernel_rfl) (by kernel_rfl) rfl (hR (u := .agg #[.string xp.name, .int .i64 xp.first, .int .i64 xp.count, .bool xp.general, .bool xp.keep]) 9 [0, 1, 2, 3, 4, 5] (runLoadS (f := encPool) (T := 47) (b := R.pb) (k := 5) (T' := 47) (rest := R.pr) (fun _ => rfl) (2, 0) (by kernel_rfl) hxp (by kernel_rfl) (by kernel_rfl)) (by kernel_rfl) (by kernel_rfl) (by kernel_rfl) (by kernel_rfl) (by kernel_rfl) (by kernel_rfl) (by kernel_rfl) rfl ?_))
      refine hOS 10 [0, 1, 2, 3, 4, 5] (OS.run1 (0, 0) (fun b8 => .slice (some ⟨b8, 0, none⟩) 1 1) (fun b8 => [[(R.rt, .cells #[.slice (some ⟨R.pb, 0, none⟩) T.pools.length R.pc, .slice (some ⟨R.rb, 0, none⟩) 4096 4096, .slice (some ⟨R.yb, 0, none⟩) 4096 4096] 81)], [(R.pb, .cells (arr encPool T.pools R.pr) 47)], [(R.rb, .cells (arr encInt (refsL fs) []) 3)], [(R.yb, .cells (arr encPg (pagesL fs) []) 71)], F, [(b1, .cells #[.slice na nl.length nc, .int .i64 cnt, .int .i64 al, .bool cg, .bool top] 83)], SD.blk 47 encPool d2 out2, [(b8, .cells #[.string xp.name, .int .i64 xp.first, .int .i64 xp.count, .bool xp.general, .bool xp.keep] 47)]]) (fun b8 => []) (by kernel_rfl) (fun b8 => by kernel_rfl)) (by kernel_rfl) (by kernel_rfl) (by kernel_rfl) (fun _ => by kernel_rfl) ?_
      rintro b8 -
      refine hOS 11 [0, 1, 2, 3, 4, 5] (OS.x (u := fun d' : SD => .slice d'.a (out2.length + 1) d'.cap) (by kernel_rfl) (by kernel_rfl) (runAppend1 (t := 22) (ty := 22) (b2 := b8) (cs := #[.string xp.name, .int .i64 xp.first, .int .i64 xp.count, .bool xp.general, .bool xp.keep]) (T2 := 47) (k := 5) (e := 47) (by_ := 40) (z := [.string (⟨#[]⟩ : ByteArray), .int .i64 0, .int .i64 0, .bool false, .bool false]) (f := encPool) (fun _ => rfl) d2 out2 xp out2.length 6 7 (by kernel_rfl) (by kernel_rfl) rfl rfl (by kernel_rfl) rfl hd2 (by kernel_rfl) (by kernel_rfl) rfl (by omega) (by omega)) (fun _ => by kernel_rfl)) (by kernel_rfl) (by kernel_rfl) (by kernel_rfl) (fun _ => by kernel_rfl) ?_
      rintro d9 okd9
      refine hTakes [12] [] [0, 1, 2, 3, 4, 5] [(5, .slice d9.a (out2.length + 1) d9.cap)] [] (by kernel_rfl) (by kernel_rfl) (by kernel_rfl) (by kernel_rfl) (hEnd (by kernel_rfl) (sEnd (sReg (lRunS 1 [] [(51, .int .i64 (IntKind.i64.wrap ((i2 : Int) + 1)))] [] (by kernel_rfl) (lOv 51 (iw (x := (i2 : Int) + 1) (by omega)) (by kernel_rfl) ?_)))))
      refine lRunS 1 [] [(35, .int .i64 ((i2 : Int) + 1))] [] (by kernel_rfl) (lEnd ?_)
      refine sOv (v := .slice d9.a ((out2 ++ [xp]).length) d9.cap) (v0 := .slice d9.a (out2.length + 1) d9.cap) 5 (congrArg (fun n => Value.slice d9.a n d9.cap) (by simp)) (by kernel_rfl) ?_
      exact sPick [0, 1, 2, 3, 4, 5, 6] (by kernel_rfl) (by kernel_rfl) (sAgain (i2 + 1, d9, out2 ++ [xp]) ⟨by omega, by simpa using okd9, by simp; omega, by rw [← hS2, nameP_step hx7 hj hxp]; simp⟩ (by first | omega | (simp only []; omega)) (by kernel_rfl) rfl)
    · refine sExit (by kernel_rfl) (sSeq (rRunS [] [(4, .slice d2.a out2.length d2.cap), (52, .slice d2.a out2.length d2.cap)] [] (by kernel_rfl) (sRet ?_)))
      have hL : out2 = askP T.pools nl := by rw [← hS2, List.drop_of_length_le (by omega)]; simp [nameP]
      refine wfRe (its' := [[(R.rt, .cells #[.slice (some ⟨R.pb, 0, none⟩) T.pools.length R.pc, .slice (some ⟨R.rb, 0, none⟩) 4096 4096, .slice (some ⟨R.yb, 0, none⟩) 4096 4096] 81)], [(R.pb, .cells (arr encPool T.pools R.pr) 47)], [(R.rb, .cells (arr encInt (refsL fs) []) 3)], [(R.yb, .cells (arr encPg (pagesL fs) []) 71)], F, [(b1, .cells #[.slice na nl.length nc, .int .i64 cnt, .int .i64 al, .bool cg, .bool top] 83)], SD.blk 47 encPool d2 (askP T.pools nl)]) (by rw [hL]) ?_
      exact wRet d2 (0, 0) [] (.slice d2.a out2.length d2.cap) [.tmp 4] rfl (by kernel_rfl) (by rw [hL]) (hL ▸ hd2) (fun _ h => h.pick [0, 1, 2, 3, 6, 4] (by kernel_rfl) (by kernel_rfl))

end Go.Proofs.Ytinpojleegfadaa
