/- The walk of GuardianOnce: for all amounts, cuts and repetitions it returns true. -/
import Derived.Test.YtljfjiaiachbfaaDoorProg
import Derived.Test.YtljfjiaiachbfaaDoorM6
import Derived.Test.YtljfjiaiachbfaaDoorA7
import Derived.Test.YtljfjiaiachbfaaDoorB3
import Derived.Test.YtljfjiaiachbfaaDoorB4
import Derived.Test.YtljfjiaiachbfaaDoorB5
import Derived.Test.YtljfjiaiachbfaaDoorK2
namespace Go.Proofs.YtljfjiaiachbfaaDoor
open Go.Sx Go.Sx.Gd
set_option maxRecDepth 100000
set_option linter.unusedSimpArgs false
set_option linter.unusedVariables false
def encI16 (x : Int) : List Value := [.int .i16 x]
theorem one_encI16 {x : Int} {u : Value} (h : u ∈ encI16 x) : oneC u = true := by simp only [encI16, List.mem_singleton] at h; subst h; rfl
def encStrB (s : ByteArray) : List Value := [.string s]
theorem one_encStrB {x : ByteArray} {u : Value} (h : u ∈ encStrB x) : oneC u = true := by simp only [encStrB, List.mem_singleton] at h; subst h; rfl
theorem tm2 (i : Nat) : ((i : Nat) : Int).tmod 2 = ((i % 2 : Nat) : Int) := by rw [Int.tmod_eq_emod_of_nonneg (by omega)]; omega
theorem tm3 (i : Nat) : ((i : Nat) : Int).tmod 3 = ((i % 3 : Nat) : Int) := by rw [Int.tmod_eq_emod_of_nonneg (by omega)]; omega
theorem td2 {i : Nat} (h : i ≤ 1000) : IntKind.i64.wrap (((i : Nat) : Int).tdiv 2) = ((i / 2 : Nat) : Int) := by
  rw [Int.tdiv_eq_ediv_of_nonneg (by omega), wrap_i64 (by omega)]; omega
def abc : List ByteArray := [⟨#[97]⟩, ⟨#[98]⟩, ⟨#[99]⟩]
theorem key3 {i : Nat} {x : ByteArray} (h : abc[i % 3]? = some x) : x = onceKey i := by
  unfold abc at h
  unfold onceKey
  have h3 : i % 3 < 3 := Nat.mod_lt _ (by decide)
  rcases Nat.lt_or_ge (i % 3) 1 with h1 | h1
  · rw [show i % 3 = 0 by omega] at h ⊢; simp at h; simp [h]
  · rcases Nat.lt_or_ge (i % 3) 2 with h2 | h2
    · rw [show i % 3 = 1 by omega] at h ⊢; simp at h; simp [h]
    · rw [show i % 3 = 2 by omega] at h ⊢; simp at h; simp [h]
theorem alM_get {l : List (ByteArray × Int)} : ∀ {i : Nat} {x : ByteArray × Value × Nat}, x ∈ alM l i → ∃ k v c, x = (k, .int .i64 v, i + c) ∧ l[c]? = some (k, v) := by
  induction l with
  | nil => intro i x h; cases h
  | cons y l ih =>
    intro i x h
    simp only [alM, List.mem_cons] at h
    rcases h with rfl | h
    · exact ⟨y.1, y.2, 0, rfl, rfl⟩
    · obtain ⟨k, v, c, rfl, h2⟩ := ih h
      exact ⟨k, v, c + 1, by rw [show i + 1 + c = i + (c + 1) by omega], by simpa using h2⟩
theorem alM_borns : ∀ (l : List (ByteArray × Int)) (i : Nat), (alM l i).map (·.2.2) = List.range' i l.length
  | [], _ => rfl
  | x :: l, i => by simp only [alM, List.map_cons, List.length_cons, List.range'_succ, alM_borns l (i + 1)]
theorem alM_nd (l : List (ByteArray × Int)) (i : Nat) : ((alM l i).map (·.2.2)).Nodup := by rw [alM_borns]; exact List.nodup_range'
theorem alM_born {l : List (ByteArray × Int)} : ∀ x ∈ alM l 0, x.2.2 < l.length := by
  intro x hx
  obtain ⟨k, v, c, rfl, h⟩ := alM_get hx
  have := (List.getElem?_eq_some_iff.1 h).1
  show 0 + c < _; omega
theorem accV_of {l : List (ByteArray × Int)} (hn : (l.map (·.1)).Nodup) {c : Nat} {k : ByteArray} {v : Int} (h : l[c]? = some (k, v)) : accV l k = v := by
  unfold accV
  induction l generalizing c with
  | nil => simp at h
  | cons y l ih =>
    simp only [List.map_cons, List.nodup_cons] at hn
    simp only [accO]
    cases c with
    | zero => simp at h; subst h; simp
    | succ c =>
      simp at h
      rw [if_neg]
      · exact ih hn.2 h
      · intro e
        exact hn.1 (List.mem_map.2 ⟨(k, v), List.mem_of_getElem? h, e⟩)
theorem vis_le {n : Nat} {vis : List Nat} (hn : vis.Nodup) (hl : ∀ c ∈ vis, c < n) : vis.length ≤ n := by
  have h := List.Nodup.length_le_of_subset hn (l₂ := List.range n) (fun c hc => List.mem_range.2 (hl c hc))
  simpa using h
theorem vis_len {n c : Nat} {vis : List Nat} (hn : vis.Nodup) (hl : ∀ c ∈ vis, c < n) (hc : c < n) (h : c ∉ vis) : vis.length < n := by
  have h1 := vis_le (n := n) (vis := c :: vis) (List.nodup_cons.2 ⟨h, hn⟩) (fun q hq => (List.mem_cons.1 hq).elim (fun e => e ▸ hc) (hl q))
  rw [List.length_cons] at h1; omega
theorem jeq {bs J : List UInt8} {n : Nat} (h : bs = J.take n) (hl : bs.length = n) : (recM bs).1.jr = J.take (recM bs).2 := by
  have h1 := (recM_jr bs).1
  have h2 := (recM_jr bs).2
  have e : bs.take (recM bs).2 = J.take (recM bs).2 := by
    generalize (recM bs).2 = q at h2
    rw [h, List.take_take, Nat.min_eq_left (by omega)]
  rw [h1, e]
theorem skip_of {i c q b : Nat} {s : Int} (hs : s = ((i / 2 + 1 : Nat) : Int)) (h : ¬ (((i % 2 : Nat) : Int) = ((c : Nat) : Int) ∧ s > ((q - b : Nat) : Int))) : i % 2 ≠ c ∨ i / 2 + 1 ≤ q := by
  by_cases hq : i % 2 = c
  · right
    have h2 : ¬ (s > ((q - b : Nat) : Int)) := fun e => h ⟨by omega, e⟩
    omega
  · exact .inl hq
theorem accV_exS (s : Srv) (r : Req) : accV (exS s r).acc r.key = newV s r := by
  show (accO (accSet s.acc r.key (newV s r)) r.key).getD 0 = _
  rw [accO_set, if_pos rfl]; rfl
theorem nR_self {len p c : Nat} (hc : c < 2) : nR len p c 0 c = nN p c := by
  unfold nR nN
  rw [if_neg (by omega), if_pos rfl]; omega

variable {gT : TypeId} {gF : Nat × Nat}
theorem c_once (W : World) (a : Option Addr) (ac : Nat) (am : List Int) (cut back : Int) (hA : BS W encI16 a am) (hr : ∀ n ∈ am, -32768 ≤ n ∧ n ≤ 32767) (hn : am.length ≤ 9223372036854775807) :
    CP Tryd.prog W (gB gT gF) 5 #[.slice a am.length ac, .int .i64 cut, .int .i64 back] [] (.bool true) := by
  intro F
  refine ctIntro Tryd.func5 rfl rfl (by kernel_rfl) ?_
  refine sSeq (rRunS [] [(6, .bool false)] [] (by kernel_rfl) (sSeq (sSeq (sReg (lRunS 4 [] [(33, .bool (decide ((am.length : Int) > (60 : Int)))), (32, .bool (decide ((am.length : Int) > (60 : Int)))), (31, .int .i64 (am.length : Int)), (30, .slice a am.length ac)] [] (by kernel_rfl) ?_)))))
  rcases Classical.em ((am.length : Int) > (60 : Int)) with h1 | h1
  · refine lOv (v := .bool true) (v0 := .bool (decide ((am.length : Int) > (60 : Int)))) 33 (ovT (bpD ((am.length : Int) > (60 : Int))) h1) (by kernel_rfl) (lRunS 3 [] [(36, .bool true), (35, undef), (34, undef)] [] (by kernel_rfl) (lEnd (sIfT (by kernel_rfl) (sSeq (sReg ?_)))))
    refine lCallR [] [0] (c_awake W) (by kernel_rfl) (by kernel_rfl) (by kernel_rfl) (by kernel_rfl) (by kernel_rfl) (lRunS 1 [] [(6, .bool true)] [] (by kernel_rfl) (lEnd (sRet ?_)))
    exact wRet () (0, 0) [] (.bool true) [.tmp 6] rfl (by kernel_rfl) rfl trivial (fun _ h => h)
  · refine lOv (v := .bool false) (v0 := .bool (decide ((am.length : Int) > (60 : Int)))) 33 (ovF (bpD ((am.length : Int) > (60 : Int))) h1) (by kernel_rfl) ?_
    refine lCallR [] [0] (c_awake W) (by kernel_rfl) (by kernel_rfl) (by kernel_rfl) (by kernel_rfl) (by kernel_rfl) (lRunS 2 [] [(36, .bool false), (35, .bool false)] [] (by kernel_rfl) (lEnd (sIfF (by kernel_rfl) (sSkip (sSeq ?_)))))
    refine rRunS [] [(7, .slice none 0 0)] [] (by kernel_rfl) (sSeq ?_)
    refine rRunN [] (fun b1 => [(8, .map (some b1)), (38, .map (some b1))]) (fun b1 => []) (fun b1 => .map #[] 0) (fun b1 => []) (fun b1 => by kernel_rfl) (fun b1 => ?_)
    refine sSeq (sReg ?_)
    refine lCallP [] (c_new8 W (gB gT gF)) (by kernel_rfl) (by kernel_rfl) (by kernel_rfl) ?_
    rintro ⟨sb, am_, cm⟩ -
    refine lRunS 1 [] [(9, .pointer (some ⟨sb, 0, none⟩))] [] (by kernel_rfl) (lEnd (sSeq (sSeq (rRunS [] [(42, .int .i64 0), (41, .int .i64 (am.length : Int)), (40, .slice a am.length ac)] [] (by kernel_rfl) (sBlock ?_)))))
    have ha : OkA am := ⟨by omega, hr⟩
    refine sPick (its' := [[(sb, .cells #[.map (some am_), .map (some cm), .slice sdn.a srv0.jr.length sdn.cap, .int .i64 ((srv0.cnt : Nat) : Int)] 82)], [(am_, .map (mkM Value.string (alM srv0.acc 0)) srv0.acc.length)], [(cm, .map (mkM (Value.int .i64) (clM srv0.cli 0)) srv0.cli.length)], SD.blk 5 encByte sdn srv0.jr, [(b1, .map #[] 0)], F]) [0, 1, 2, 3, 5, 4] (by kernel_rfl) (by kernel_rfl) ?_
    refine sRe (its' := [[(sb, .cells #[.map (some am_), .map (some cm), .slice sdn.a ((runS ((onceL am).take 0)).jr.length) sdn.cap, .int .i64 (((runS ((onceL am).take 0)).cnt : Nat) : Int)] 82)], [(am_, .map (mkM Value.string (alM (runS ((onceL am).take 0)).acc 0)) ((runS ((onceL am).take 0)).acc.length))], [(cm, .map (mkM (Value.int .i64) (clM (runS ((onceL am).take 0)).cli 0)) ((runS ((onceL am).take 0)).cli.length))], SD.blk 5 encByte sdn ((runS ((onceL am).take 0)).jr), [(b1, .map (mkM Value.string (alM (runS ((onceL am).take 0)).acc 0)) ((runS ((onceL am).take 0)).acc.length))], SD.blk 30 encReq sdn ((onceL am).take 0), F]) rfl ?_
    refine sOv (v := .slice sdn.a 0 sdn.cap) (v0 := .slice none 0 0) 7 rfl (by kernel_rfl) ?_
    refine sLoop (fun (x_ : Nat × SD × SD) => match x_ with | (i, dj, dl) => [(42, .int .i64 (i : Int)), (41, .int .i64 (am.length : Int)), (40, .slice a am.length ac), (9, .pointer (some ⟨sb, 0, none⟩)), (8, .map (some b1)), (7, .slice dl.a i dl.cap), (2, .int .i64 back), (1, .int .i64 cut), (0, .slice a am.length ac)]) (fun (x_ : Nat × SD × SD) => match x_ with | (i, dj, dl) => [[(sb, .cells #[.map (some am_), .map (some cm), .slice dj.a ((runS ((onceL am).take i)).jr.length) dj.cap, .int .i64 (((runS ((onceL am).take i)).cnt : Nat) : Int)] 82)], [(am_, .map (mkM Value.string (alM (runS ((onceL am).take i)).acc 0)) ((runS ((onceL am).take i)).acc.length))], [(cm, .map (mkM (Value.int .i64) (clM (runS ((onceL am).take i)).cli 0)) ((runS ((onceL am).take i)).cli.length))], SD.blk 5 encByte dj ((runS ((onceL am).take i)).jr), [(b1, .map (mkM Value.string (alM (runS ((onceL am).take i)).acc 0)) ((runS ((onceL am).take i)).acc.length))], SD.blk 30 encReq dl ((onceL am).take i), F]) (fun (x_ : Nat × SD × SD) => match x_ with | (i, dj, dl) => i ≤ am.length ∧ dj.ok 1 (runS ((onceL am).take i)).jr.length ∧ dl.ok 4 i) (fun (x_ : Nat × SD × SD) => match x_ with | (i, dj, dl) => am.length - i) (0, sdn, sdn) ⟨by omega, SD.ok_nil 1, SD.ok_nil 4⟩ (by kernel_rfl) rfl ?_
    rintro ⟨i, dj, dl⟩ ⟨hi, hj, hdl⟩
    have hli : ((onceL am).take i).length = i := by rw [List.length_take, onceL_len]; omega
    have hO := onc_run ha i hi
    refine sSeq (rRunS [] [(43, .bool (decide ((i : Int) < (am.length : Int))))] [] (by kernel_rfl) (sSeq ?_))
    refine sIfP (bpD ((i : Int) < (am.length : Int))) (by kernel_rfl) (fun h2 => ?_) (fun h2 => ?_)
    · refine sSkip (sSeq (sBlock (sSeq (sReg (lRunS 1 [] [(44, .int .i64 (i : Int))] [] (by kernel_rfl) ?_)))))
      obtain ⟨b2, ob2, hab2, hcb2⟩ := BS.some hA (by omega)
      refine lR (u := .pointer (some ⟨b2, ob2 + i * 1, none⟩)) (runIndexD (T := 51) (E := 53) (n := am.length) (c := ac) (b := b2) (o := ob2) (k := 1) (ik := .i64) i hab2 (by kernel_rfl) (by kernel_rfl) (by omega)) (by kernel_rfl) (by kernel_rfl) (by kernel_rfl) ?_
      obtain ⟨x3, hx3⟩ : ∃ x, am[i]? = some x := ⟨_, List.getElem?_eq_getElem (by (try simp only [List.length_set, List.length_append, List.length_replicate, List.length_cons, List.length_nil]); omega)⟩
      refine lR (u := .int .i16 x3) (runLoadBE1 (f := encI16) (T := 53) (v := .int .i16 x3) (fun _ => rfl) hcb2 hx3 rfl (by kernel_rfl)) (by kernel_rfl) (by kernel_rfl) (by kernel_rfl) ?_
      have hxr := hr x3 (List.mem_of_getElem? hx3)
      have hgx := onceL_get hx3
      have hstp := hO.step ha hx3 (by unfold nN; omega)
      have hbd := hO.bound ha (onceR i x3).key
      have hdS : doS (runS ((onceL am).take i)) (onceR i x3) = exS (runS ((onceL am).take i)) (onceR i x3) := doS_6 hstp.1
      have hxq : (onceR i x3).seq ≤ 9223372036854775807 := by show ((i / 2 + 1 : Nat) : Int) ≤ _; omega
      have hma : (onceR i x3).amount = x3 := rfl
      refine lRunS 2 [] [(11, .int .i16 x3), (10, .int .i64 (i : Int))] [] (by kernel_rfl) (lEnd (sSeq (sReg (lRunS 2 [] [(48, .int .i64 ((i : Int).tmod 2)), (47, .int .i64 (i : Int))] [] (by kernel_rfl) (lOv (v := .int .i64 ((i % 2 : Nat) : Int)) (v0 := .int .i64 ((i : Int).tmod 2)) 48 (congrArg (Value.int .i64) (tm2 i)) (by kernel_rfl) ?_)))))
      refine lRunS 2 [] [(50, .int .i64 (IntKind.i64.wrap ((i : Int).tdiv 2))), (49, .int .i64 (i : Int))] [] (by kernel_rfl) (lOv (v := .int .i64 ((i / 2 : Nat) : Int)) (v0 := .int .i64 (IntKind.i64.wrap ((i : Int).tdiv 2))) 50 (congrArg (Value.int .i64) (td2 (by omega))) (by kernel_rfl) (lRunS 1 [] [(51, .int .i64 (IntKind.i64.wrap (((i / 2 : Nat) : Int) + 1)))] [] (by kernel_rfl) (lOv (v := .int .i64 ((i / 2 + 1 : Nat) : Int)) (v0 := .int .i64 (IntKind.i64.wrap (((i / 2 : Nat) : Int) + 1))) 51 (congrArg (Value.int .i64) ((wrap_i64 (by omega)).trans (by omega))) (by kernel_rfl) ?_)))
      refine lRunN 3 [] (fun b4 => [(54, .int .i64 ((i : Int).tmod 3)), (53, .int .i64 (i : Int)), (52, .slice (some ⟨b4, 0, none⟩) 3 3)]) (fun b4 => []) (fun b4 => .cells #[.string (⟨#[97]⟩ : ByteArray), .string (⟨#[98]⟩ : ByteArray), .string (⟨#[99]⟩ : ByteArray)] 9) (fun b4 => []) (fun b4 => by kernel_rfl) (fun b4 => ?_)
      refine lOv (v := .int .i64 ((i % 3 : Nat) : Int)) (v0 := .int .i64 ((i : Int).tmod 3)) 54 (congrArg (Value.int .i64) (tm3 i)) (by kernel_rfl) (lR (u := .pointer (some ⟨b4, (i % 3) * 1, none⟩)) (runIndex0 (T := 54) (E := 9) (n := 3) (c := 3) (b := b4) (k := 1) (ik := .i64) (i % 3) (by kernel_rfl) (by kernel_rfl) (by omega)) (by kernel_rfl) (by kernel_rfl) (by kernel_rfl) ?_)
      refine lRe (its' := [[(sb, .cells #[.map (some am_), .map (some cm), .slice dj.a ((runS ((onceL am).take i)).jr.length) dj.cap, .int .i64 (((runS ((onceL am).take i)).cnt : Nat) : Int)] 82)], [(am_, .map (mkM Value.string (alM (runS ((onceL am).take i)).acc 0)) ((runS ((onceL am).take i)).acc.length))], [(cm, .map (mkM (Value.int .i64) (clM (runS ((onceL am).take i)).cli 0)) ((runS ((onceL am).take i)).cli.length))], SD.blk 5 encByte dj ((runS ((onceL am).take i)).jr), [(b1, .map (mkM Value.string (alM (runS ((onceL am).take i)).acc 0)) ((runS ((onceL am).take i)).acc.length))], SD.blk 30 encReq dl ((onceL am).take i), F, [(b4, .cells (arr encStrB abc []) 9)]]) rfl ?_
      have habc : abc.length = 3 := rfl
      obtain ⟨x5, hx5⟩ : ∃ x, abc[i % 3]? = some x := ⟨_, List.getElem?_eq_getElem (by (try simp only [List.length_set, List.length_append, List.length_replicate, List.length_cons, List.length_nil]); omega)⟩
      refine lR (u := .string x5) (runLoadE1 (f := encStrB) (T := 9) (b := b4) (T' := 9) (rest := []) (v := .string x5) (fun _ => rfl) (8, 0) (by kernel_rfl) hx5 rfl (by kernel_rfl)) (by kernel_rfl) (by kernel_rfl) (by kernel_rfl) ?_
      have hky := key3 hx5
      refine lOv (v := .string (onceKey i)) (v0 := .string x5) 56 (congrArg Value.string hky) (by kernel_rfl) (lRunS 2 [] [(58, .int .i64 (IntKind.i64.wrap x3)), (57, .int .i16 x3)] [] (by kernel_rfl) (lOv 58 (iw (x := x3) (by omega)) (by kernel_rfl) (lRunS 1 [] [(59, .agg #[.int .i64 ((i % 2 : Nat) : Int), .int .i64 ((i / 2 + 1 : Nat) : Int), .string (onceKey i), .int .i64 x3])] [] (by kernel_rfl) (lOv (v := .agg #[.int .i64 ((onceR i x3).client), .int .i64 ((onceR i x3).seq), .string ((onceR i x3).key), .int .i64 ((onceR i x3).amount)]) (v0 := .agg #[.int .i64 ((i % 2 : Nat) : Int), .int .i64 ((i / 2 + 1 : Nat) : Int), .string (onceKey i), .int .i64 x3]) 59 rfl (by kernel_rfl) ?_))))
      refine lRunN 2 [(1, 9, 0)] (fun b6 => [(12, .pointer (some ⟨b6, 0, none⟩))]) (fun b6 => []) (fun b6 => .cells #[.int .i64 ((onceR i x3).client), .int .i64 ((onceR i x3).seq), .string ((onceR i x3).key), .int .i64 ((onceR i x3).amount)] 30) (fun b6 => [b6, b6, b6, b6]) (fun b6 => by kernel_rfl) (fun b6 => ?_)
      refine lEnd (sSeq (sReg ?_))
      refine lRunN 3 [(1, 9, 0)] (fun b7 => [(62, .slice (some ⟨b7, 0, none⟩) 1 1), (61, .agg #[.int .i64 ((onceR i x3).client), .int .i64 ((onceR i x3).seq), .string ((onceR i x3).key), .int .i64 ((onceR i x3).amount)]), (60, .slice dl.a i dl.cap)]) (fun b7 => []) (fun b7 => .cells #[.int .i64 ((onceR i x3).client), .int .i64 ((onceR i x3).seq), .string ((onceR i x3).key), .int .i64 ((onceR i x3).amount)] 30) (fun b7 => [b6, b6, b6, b6]) (fun b7 => by kernel_rfl) (fun b7 => ?_)
      refine lX (u := fun d' : SD => .slice d'.a (i + 1) d'.cap) (runAppend1 (t := 22) (ty := 22) (b2 := b7) (cs := #[.int .i64 ((onceR i x3).client), .int .i64 ((onceR i x3).seq), .string ((onceR i x3).key), .int .i64 ((onceR i x3).amount)]) (T2 := 30) (k := 4) (e := 30) (by_ := 40) (z := [.int .i64 0, .int .i64 0, .string (⟨#[]⟩ : ByteArray), .int .i64 0]) (f := encReq) (fun _ => rfl) dl ((onceL am).take i) (onceR i x3) i 5 9 (by kernel_rfl) (by kernel_rfl) rfl rfl (by kernel_rfl) hli hdl (by kernel_rfl) (by kernel_rfl) rfl (by omega) (by omega)) (by kernel_rfl) (by kernel_rfl) (fun _ => by kernel_rfl) ?_
      rintro d8 okd8
      refine lRunS 1 [] [(7, .slice d8.a (i + 1) d8.cap)] [] (by kernel_rfl) (lEnd (sSeq (sReg (lRunS 3 [(2, 9, 0)] [(66, .string ((onceR i x3).key)), (65, .pointer (some ⟨b6, 2, none⟩)), (64, .map (some b1))] [b6] (by kernel_rfl) (lR (u := (lkM (alM (runS ((onceL am).take i)).acc 0) ((onceR i x3).key)).getD (.int .i64 0)) (runLook (T := 52) (b := b1) (K := 9) (E := 2) (l := (alM (runS ((onceL am).take i)).acc 0)) (clk := ((runS ((onceL am).take i)).acc.length)) (by kernel_rfl) (keyStr (by kernel_rfl)) (.int .i64 0) (by kernel_rfl) (5, 0) ((onceR i x3).key) (by kernel_rfl)) (by kernel_rfl) (by kernel_rfl) (by kernel_rfl) ?_)))))
      refine lOv (v := .int .i64 (accV (runS ((onceL am).take i)).acc (onceR i x3).key)) (v0 := (lkM (alM (runS ((onceL am).take i)).acc 0) ((onceR i x3).key)).getD (.int .i64 0)) 67 (alM_val _ _) (by kernel_rfl) (lRunS 3 [(1, 9, 0)] [(70, .int .i64 (IntKind.i64.wrap ((accV (runS ((onceL am).take i)).acc (onceR i x3).key) + ((onceR i x3).amount)))), (69, .int .i64 ((onceR i x3).amount)), (68, .pointer (some ⟨b6, 3, none⟩))] [b6] (by kernel_rfl) (lOv 70 (iw (x := (accV (runS ((onceL am).take i)).acc (onceR i x3).key) + ((onceR i x3).amount)) (by omega)) (by kernel_rfl) ?_))
      refine lX (u := fun _ => undef) (runUpd (T := 52) (b := b1) (K := 9) (E := 2) (l := (alM (runS ((onceL am).take i)).acc 0)) (clk := ((runS ((onceL am).take i)).acc.length)) (by kernel_rfl) (keyStr (by kernel_rfl)) 4 0 ((onceR i x3).key) (.int .i64 ((accV (runS ((onceL am).take i)).acc (onceR i x3).key) + ((onceR i x3).amount))) (by kernel_rfl)) (by kernel_rfl) (by kernel_rfl) (fun _ => by kernel_rfl) ?_
      rintro ⟨⟩ -
      refine lEnd (sSeq ?_)
      refine sRe (its' := [[(sb, .cells #[.map (some am_), .map (some cm), .slice dj.a ((runS ((onceL am).take i)).jr.length) dj.cap, .int .i64 (((runS ((onceL am).take i)).cnt : Nat) : Int)] 82)], [(am_, .map (mkM Value.string (alM (runS ((onceL am).take i)).acc 0)) ((runS ((onceL am).take i)).acc.length))], [(cm, .map (mkM (Value.int .i64) (clM (runS ((onceL am).take i)).cli 0)) ((runS ((onceL am).take i)).cli.length))], SD.blk 5 encByte dj ((runS ((onceL am).take i)).jr), [(b1, .map (mkM Value.string (alM (doS (runS ((onceL am).take i)) (onceR i x3)).acc 0)) ((doS (runS ((onceL am).take i)) (onceR i x3)).acc.length))], SD.blk 30 encReq d8 (((onceL am).take i) ++ [(onceR i x3)]), F, [(b4, .cells (arr encStrB abc []) 9)], [(b6, .cells #[.int .i64 ((onceR i x3).client), .int .i64 ((onceR i x3).seq), .string ((onceR i x3).key), .int .i64 ((onceR i x3).amount)] 30)], [(b7, .cells #[.int .i64 ((onceR i x3).client), .int .i64 ((onceR i x3).seq), .string ((onceR i x3).key), .int .i64 ((onceR i x3).amount)] 30)]]) (by rw [hdS, show (exS (runS ((onceL am).take i)) (onceR i x3)).acc = accSet (runS ((onceL am).take i)).acc (onceR i x3).key (newV (runS ((onceL am).take i)) (onceR i x3)) from rfl, ← alM_in0, ← alM_clk (v := newV (runS ((onceL am).take i)) (onceR i x3))] <;> rfl) ?_
      refine sReg (lRunS 2 [(1, 9, 0)] [(73, .agg #[.int .i64 ((onceR i x3).client), .int .i64 ((onceR i x3).seq), .string ((onceR i x3).key), .int .i64 ((onceR i x3).amount)]), (72, .pointer (some ⟨sb, 0, none⟩))] [b6, b6, b6, b6] (by kernel_rfl) ?_)
      refine lCallP [0, 1, 2, 3] (c_do W (gB gT gF) sb am_ cm dj (runS ((onceL am).take i)) (onceR i x3) hxq hO.ok hj) (by kernel_rfl) (by kernel_rfl) (by kernel_rfl) ?_
      rintro dj2 hdj2
      refine lRunS 1 [] [(71, resV (runS ((onceL am).take i)) (onceR i x3))] [] (by kernel_rfl) (lOv (v := .tuple #[.int .i64 (newV (runS ((onceL am).take i)) (onceR i x3)), .bool true, .int .i64 0]) (v0 := resV (runS ((onceL am).take i)) (onceR i x3)) 71 (res_k hstp.1) (by kernel_rfl) (lRunS 6 [] [(15, .int .i64 0), (14, .bool true), (13, .int .i64 (newV (runS ((onceL am).take i)) (onceR i x3))), (77, .int .i64 0), (76, .bool true), (75, .int .i64 (newV (runS ((onceL am).take i)) (onceR i x3)))] [] (by kernel_rfl) (lEnd (sSeq (sReg ?_)))))
      refine lRunS 11 [(10, 9, 0)] [(88, .string ((onceR i x3).key)), (87, .pointer (some ⟨b6, 2, none⟩)), (86, .map (some b1)), (85, .int .i64 (newV (runS ((onceL am).take i)) (onceR i x3))), (84, .bool false), (83, .bool false), (82, .bool false), (81, .bool true), (80, .bool false), (79, .bool false), (78, .int .i64 0)] [b6] (by kernel_rfl) (lR (u := (lkM (alM (doS (runS ((onceL am).take i)) (onceR i x3)).acc 0) ((onceR i x3).key)).getD (.int .i64 0)) (runLook (T := 52) (b := b1) (K := 9) (E := 2) (l := (alM (doS (runS ((onceL am).take i)) (onceR i x3)).acc 0)) (clk := ((doS (runS ((onceL am).take i)) (onceR i x3)).acc.length)) (by kernel_rfl) (keyStr (by kernel_rfl)) (.int .i64 0) (by kernel_rfl) (5, 0) ((onceR i x3).key) (by kernel_rfl)) (by kernel_rfl) (by kernel_rfl) (by kernel_rfl) (lOv (v := .int .i64 (accV (doS (runS ((onceL am).take i)) (onceR i x3)).acc (onceR i x3).key)) (v0 := (lkM (alM (doS (runS ((onceL am).take i)) (onceR i x3)).acc 0) ((onceR i x3).key)).getD (.int .i64 0)) 89 (alM_val _ _) (by kernel_rfl) (lRunS 1 [] [(90, .bool (!(decide ((newV (runS ((onceL am).take i)) (onceR i x3)) = (accV (doS (runS ((onceL am).take i)) (onceR i x3)).acc (onceR i x3).key)))))] [] (by kernel_rfl) (lOv (v := .bool false) (v0 := .bool (!(decide ((newV (runS ((onceL am).take i)) (onceR i x3)) = (accV (doS (runS ((onceL am).take i)) (onceR i x3)).acc (onceR i x3).key))))) 90 (congrArg Value.bool (by rw [hdS, accV_exS]; simp)) (by kernel_rfl) (lRunS 1 [] [(91, .bool false)] [] (by kernel_rfl) ?_)))))
      refine lEnd (sIfF (by kernel_rfl) (sSkip (sEnd (sReg (lRunS 1 [] [(92, .int .i64 (IntKind.i64.wrap ((i : Int) + 1)))] [] (by kernel_rfl) ?_)))))
      refine lOv 92 (iw (x := (i : Int) + 1) (by omega)) (by kernel_rfl) (lRunS 1 [] [(42, .int .i64 ((i : Int) + 1))] [] (by kernel_rfl) (lEnd ?_))
      have hrs := runS_succ hgx
      have hte : (onceL am).take (i + 1) = (onceL am).take i ++ [(onceR i x3)] := by rw [List.take_add_one, hgx]; rfl
      refine sRe (its' := [[(sb, .cells #[.map (some am_), .map (some cm), .slice dj2.a ((runS ((onceL am).take (i + 1))).jr.length) dj2.cap, .int .i64 (((runS ((onceL am).take (i + 1))).cnt : Nat) : Int)] 82)], [(am_, .map (mkM Value.string (alM (runS ((onceL am).take (i + 1))).acc 0)) ((runS ((onceL am).take (i + 1))).acc.length))], [(cm, .map (mkM (Value.int .i64) (clM (runS ((onceL am).take (i + 1))).cli 0)) ((runS ((onceL am).take (i + 1))).cli.length))], SD.blk 5 encByte dj2 ((runS ((onceL am).take (i + 1))).jr), [(b1, .map (mkM Value.string (alM (runS ((onceL am).take (i + 1))).acc 0)) ((runS ((onceL am).take (i + 1))).acc.length))], SD.blk 30 encReq d8 ((onceL am).take (i + 1)), F, [(b4, .cells (arr encStrB abc []) 9)], [(b6, .cells #[.int .i64 ((onceR i x3).client), .int .i64 ((onceR i x3).seq), .string ((onceR i x3).key), .int .i64 ((onceR i x3).amount)] 30)], [(b7, .cells #[.int .i64 ((onceR i x3).client), .int .i64 ((onceR i x3).seq), .string ((onceR i x3).key), .int .i64 ((onceR i x3).amount)] 30)]]) (by rw [hrs, hte] <;> rfl) ?_
      exact sPick [0, 1, 2, 3, 4, 5, 6] (by kernel_rfl) (by kernel_rfl) (sAgain (i + 1, dj2, d8) ⟨by omega, hrs ▸ hdj2, okd8⟩ (by first | omega | (simp only []; omega)) (by kernel_rfl) rfl)
    · refine sExit (by kernel_rfl) (sSeq ?_)
      obtain rfl : i = am.length := by omega
      have hfull : (onceL am).take am.length = onceL am := List.take_of_length_le (by rw [onceL_len]; exact Nat.le_refl _)
      refine sRe (its' := [[(sb, .cells #[.map (some am_), .map (some cm), .slice dj.a ((runS ((onceL am).take am.length)).jr.length) dj.cap, .int .i64 (((runS ((onceL am).take am.length)).cnt : Nat) : Int)] 82)], [(am_, .map (mkM Value.string (alM (runS ((onceL am).take am.length)).acc 0)) ((runS ((onceL am).take am.length)).acc.length))], [(cm, .map (mkM (Value.int .i64) (clM (runS ((onceL am).take am.length)).cli 0)) ((runS ((onceL am).take am.length)).cli.length))], SD.blk 5 encByte dj ((runS ((onceL am).take am.length)).jr), [(b1, .map (mkM Value.string (alM (runS ((onceL am).take am.length)).acc 0)) ((runS ((onceL am).take am.length)).acc.length))], SD.blk 30 encReq dl ((onceL am).take am.length), F]) rfl ?_
      rw [hfull] at hj hO
      have hjl := hO.ok.jr
      have hjc := hO.ok.cnt
      refine sRe (its' := [[(sb, .cells #[.map (some am_), .map (some cm), .slice dj.a ((runS (onceL am)).jr.length) dj.cap, .int .i64 (((runS (onceL am)).cnt : Nat) : Int)] 82)], [(am_, .map (mkM Value.string (alM (runS (onceL am)).acc 0)) ((runS (onceL am)).acc.length))], [(cm, .map (mkM (Value.int .i64) (clM (runS (onceL am)).cli 0)) ((runS (onceL am)).cli.length))], SD.blk 5 encByte dj ((runS (onceL am)).jr), [(b1, .map (mkM Value.string (alM (runS (onceL am)).acc 0)) ((runS (onceL am)).acc.length))], SD.blk 30 encReq dl (onceL am), F]) (by rw [hfull] <;> rfl) ?_
      refine sReg (lRunS 1 [] [(93, .pointer (some ⟨sb, 0, none⟩))] [] (by kernel_rfl) ?_)
      refine lCallP [0, 1, 2, 3] (c_journal W (gB gT gF) sb am_ cm dj (runS (onceL am)) hO.ok hj) (by kernel_rfl) (by kernel_rfl) (by kernel_rfl) ?_
      rintro d1 hd1
      refine lRunS 1 [] [(16, .slice d1.a ((runS (onceL am)).jr.length) d1.cap)] [] (by kernel_rfl) (lEnd (sSeq ?_))
      have hcp := sd_cap hd1
      have hpos : (posA cut ((runS (onceL am)).jr.length + 1)) < (runS (onceL am)).jr.length + 1 := posA_lt (by omega)
      refine sReg (lRunS 6 [] [(101, .int .i64 (IntKind.i64.wrap ((((runS (onceL am)).jr.length : Nat) : Int) + 1))), (100, .int .i64 (((runS (onceL am)).jr.length : Nat) : Int)), (99, .slice d1.a ((runS (onceL am)).jr.length) d1.cap), (98, .int .u64 (IntKind.u64.wrap cut)), (97, .int .i64 cut), (96, .slice d1.a ((runS (onceL am)).jr.length) d1.cap)] [] (by kernel_rfl) (lOv (v := .int .i64 (((runS (onceL am)).jr.length + 1 : Nat) : Int)) (v0 := .int .i64 (IntKind.i64.wrap ((((runS (onceL am)).jr.length : Nat) : Int) + 1))) 101 (congrArg (Value.int .i64) ((wrap_i64 (by omega)).trans (by omega))) (by kernel_rfl) (lRunS 1 [] [(102, .int .u64 (IntKind.u64.wrap (((runS (onceL am)).jr.length + 1 : Nat) : Int)))] [] (by kernel_rfl) (lOv (v := .int .u64 (((runS (onceL am)).jr.length + 1 : Nat) : Int)) (v0 := .int .u64 (IntKind.u64.wrap (((runS (onceL am)).jr.length + 1 : Nat) : Int))) 102 (congrArg (Value.int .u64) (by rw [wrap_u64]; omega)) (by kernel_rfl) (lR (u := .int .u64 ((IntKind.u64.wrap cut).tmod (((runS (onceL am)).jr.length + 1 : Nat) : Int))) (runRem (T := 43) (o1 := (.tmp 98)) (o2 := (.tmp 102)) (k := .u64) (x := (IntKind.u64.wrap cut)) (y := (((runS (onceL am)).jr.length + 1 : Nat) : Int)) (by omega)) (by kernel_rfl) (by kernel_rfl) (by kernel_rfl) ?_)))))
      refine lOv (v := .int .u64 (((posA cut ((runS (onceL am)).jr.length + 1)) : Nat) : Int)) (v0 := .int .u64 ((IntKind.u64.wrap cut).tmod (((runS (onceL am)).jr.length + 1 : Nat) : Int))) 103 (congrArg (Value.int .u64) posA_eq) (by kernel_rfl) (lRunS 1 [] [(104, .int .i64 (IntKind.i64.wrap (((posA cut ((runS (onceL am)).jr.length + 1)) : Nat) : Int)))] [] (by kernel_rfl) (lOv (v := .int .i64 (((posA cut ((runS (onceL am)).jr.length + 1)) : Nat) : Int)) (v0 := .int .i64 (IntKind.i64.wrap (((posA cut ((runS (onceL am)).jr.length + 1)) : Nat) : Int))) 104 (congrArg (Value.int .i64) (wrap_i64 (by omega))) (by kernel_rfl) (lR (u := .slice d1.a (posA cut ((runS (onceL am)).jr.length + 1)) d1.cap) (runSliceHi (T := 40) (E := 5) (n := ((runS (onceL am)).jr.length)) (c := d1.cap) (a := d1.a) (ik := .i64) (posA cut ((runS (onceL am)).jr.length + 1)) (by kernel_rfl) (by kernel_rfl) (by omega)) (by kernel_rfl) (by kernel_rfl) (by kernel_rfl) ?_)))
      obtain ⟨bs, hbs⟩ : ∃ bs : List UInt8, bs = (runS (onceL am)).jr.take (posA cut ((runS (onceL am)).jr.length + 1)) := ⟨_, rfl⟩
      have hbl : bs.length = (posA cut ((runS (onceL am)).jr.length + 1)) := by rw [hbs, List.length_take]; omega
      have hrl := (recM_jr bs).2
      have hjeq := jeq hbs hbl
      refine lCallP [4] (c_recover W (gB gT gF) d1.a (posA cut ((runS (onceL am)).jr.length + 1)) d1.cap bs (hbs ▸ (SrcA.ofD rfl hd1).take _) hbl (by omega) (by omega)) (by kernel_rfl) (by kernel_rfl) (by kernel_rfl) ?_
      rintro ⟨tb, ta, tc, tj⟩ htj
      refine lRunS 5 [] [(18, .int .i64 (((recM bs).2 : Nat) : Int)), (17, .pointer (some ⟨tb, 0, none⟩)), (108, .int .i64 (((recM bs).2 : Nat) : Int)), (107, .pointer (some ⟨tb, 0, none⟩)), (95, .tuple #[.pointer (some ⟨tb, 0, none⟩), .int .i64 (((recM bs).2 : Nat) : Int)])] [] (by kernel_rfl) (lEnd (sSeq (sSeq ?_)))
      refine rHeld (by kernel_rfl) (by kernel_rfl) [[(tb, .cells #[.map (some ta), .map (some tc), .slice tj.a (((recM bs).1).jr.length) tj.cap, .int .i64 ((((recM bs).1).cnt : Nat) : Int)] 82)], [(ta, .map (mkM Value.string (alM ((recM bs).1).acc 0)) (((recM bs).1).acc.length))], [(tc, .map (mkM (Value.int .i64) (clM ((recM bs).1).cli 0)) (((recM bs).1).cli.length))], SD.blk 5 encByte tj (((recM bs).1).jr), SD.blk 5 encByte d1 ((runS (onceL am)).jr), [(sb, .cells #[.map (some am_), .map (some cm), .slice dj.a ((runS (onceL am)).jr.length) dj.cap, .int .i64 (((runS (onceL am)).cnt : Nat) : Int)] 82)], [(am_, .map (mkM Value.string (alM (runS (onceL am)).acc 0)) ((runS (onceL am)).acc.length))], [(cm, .map (mkM (Value.int .i64) (clM (runS (onceL am)).cli 0)) ((runS (onceL am)).cli.length))], SD.blk 5 encByte dj ((runS (onceL am)).jr), [(b1, .map (mkM Value.string (alM (runS (onceL am)).acc 0)) ((runS (onceL am)).acc.length))], SD.blk 30 encReq dl (onceL am), F] ?_
      refine hTakes [0, 1, 2, 3, 5, 6] [] [0, 1, 2, 3, 4, 5, 6, 7, 8, 9, 10, 11] [(115, .int .i64 (((recM bs).2 : Nat) : Int)), (114, .slice d1.a ((runS (onceL am)).jr.length) d1.cap), (112, .pointer (some ⟨tb, 0, none⟩)), (111, .bool false), (110, .bool false), (109, .pointer (some ⟨tb, 0, none⟩))] [] (by kernel_rfl) (by kernel_rfl) (by kernel_rfl) (by kernel_rfl) (hR (u := .slice d1.a ((recM bs).2) d1.cap) 7 [0, 1, 2, 3, 4, 5, 6, 7, 8, 9, 10, 11] (runSliceHi (T := 40) (E := 5) (n := ((runS (onceL am)).jr.length)) (c := d1.cap) (a := d1.a) (ik := .i64) ((recM bs).2) (by kernel_rfl) (by kernel_rfl) (by omega)) (by kernel_rfl) (by kernel_rfl) (by kernel_rfl) (by kernel_rfl) (by kernel_rfl) (by kernel_rfl) (by kernel_rfl) rfl ?_)
      refine hOS 4 [0, 1, 2, 3, 5, 6, 7, 8, 9, 10, 11, 12] (OS.callP [0, 1, 2, 3] (c_journal W (gB gT gF) tb ta tc tj (recM bs).1 (recM_ok bs) htj) (by kernel_rfl) (by kernel_rfl) (by kernel_rfl)) (by kernel_rfl) (by kernel_rfl) (by kernel_rfl) (fun _ => by kernel_rfl) ?_
      rintro d2 hd2
      refine hOS 8 [0, 1, 2, 3, 5, 6, 7, 8, 9, 10, 11, 12] (OS.call (by kernel_rfl) (CP.ct (c_bequalS W (gB gT gF) d2 d1.a (recM bs).1.jr.length (recM bs).2 d1.cap (recM bs).1.jr ((runS (onceL am)).jr.take (recM bs).2) rfl hd2 ((SrcA.ofD rfl hd1).take _) (by rw [List.length_take]; omega)) [4, 5] [2, 3, 4, 5, 0, 1, 6, 7, 8, 9, 10, 11, 12] (by kernel_rfl) (by kernel_rfl) (by kernel_rfl) (by kernel_rfl))) (by kernel_rfl) (by kernel_rfl) (by kernel_rfl) (fun _ => by kernel_rfl) ?_
      rintro ⟨⟩ -
      refine hOv (v := .bool true) (v0 := .bool (decide ((recM bs).1.jr = (runS (onceL am)).jr.take (recM bs).2))) 117 (congrArg Value.bool (decide_eq_true hjeq)) (by kernel_rfl) (hTakes [9, 10] [] [0, 1, 2, 3, 5, 6, 7, 8, 9, 10, 11, 12] [(119, .bool false), (118, .bool false)] [] (by kernel_rfl) (by kernel_rfl) (by kernel_rfl) (by kernel_rfl) (hEnd (by kernel_rfl) (sIfF (by kernel_rfl) (sSkip (sSeq ?_)))))
      refine sSeq (rRunS [] [(120, .int .i64 0)] [] (by kernel_rfl) (sBlock ?_))
      obtain ⟨p, hp, hrec, hOp⟩ := once_rec ha (posA cut ((runS (onceL am)).jr.length + 1))
      rw [← hbs] at hrec
      refine sPick (its' := [[(tb, .cells #[.map (some ta), .map (some tc), .slice tj.a (((recM bs).1).jr.length) tj.cap, .int .i64 ((((recM bs).1).cnt : Nat) : Int)] 82)], [(ta, .map (mkM Value.string (alM ((recM bs).1).acc 0)) (((recM bs).1).acc.length))], [(tc, .map (mkM (Value.int .i64) (clM ((recM bs).1).cli 0)) (((recM bs).1).cli.length))], SD.blk 5 encByte tj (((recM bs).1).jr), [(b1, .map (mkM Value.string (alM (runS (onceL am)).acc 0)) ((runS (onceL am)).acc.length))], SD.blk 30 encReq dl (onceL am), F]) [0, 1, 2, 3, 10, 11, 12] (by kernel_rfl) (by kernel_rfl) ?_
      refine sLoop (fun (x_ : Nat × Srv × SD) => match x_ with | (c, t, tj) => [(120, .int .i64 (c : Int)), (17, .pointer (some ⟨tb, 0, none⟩)), (8, .map (some b1)), (7, .slice dl.a am.length dl.cap), (2, .int .i64 back)]) (fun (x_ : Nat × Srv × SD) => match x_ with | (c, t, tj) => [[(tb, .cells #[.map (some ta), .map (some tc), .slice tj.a t.jr.length tj.cap, .int .i64 ((t.cnt : Nat) : Int)] 82)], [(ta, .map (mkM Value.string (alM t.acc 0)) t.acc.length)], [(tc, .map (mkM (Value.int .i64) (clM t.cli 0)) t.cli.length)], SD.blk 5 encByte tj t.jr, [(b1, .map (mkM Value.string (alM (runS (onceL am)).acc 0)) ((runS (onceL am)).acc.length))], SD.blk 30 encReq dl (onceL am), F]) (fun (x_ : Nat × Srv × SD) => match x_ with | (c, t, tj) => c ≤ 2 ∧ tj.ok 1 t.jr.length ∧ Onc (onceL am) t (nR am.length p c 0)) (fun (x_ : Nat × Srv × SD) => match x_ with | (c, t, tj) => 2 - c) (0, (recM bs).1, tj) ⟨by omega, htj, by rw [hrec]; exact hOp.congr fun x hx => nR_zero hx⟩ (by kernel_rfl) rfl ?_
      rintro ⟨c, t, tj⟩ ⟨hc, htj, hO⟩
      refine sSeq (rRunS [] [(121, .bool (decide ((c : Int) < (2 : Int))))] [] (by kernel_rfl) (sSeq ?_))
      refine sIfP (bpD ((c : Int) < (2 : Int))) (by kernel_rfl) (fun h3 => ?_) (fun h3 => ?_)
      · refine sSkip (sSeq (sBlock (sSeq (rRunS [] [(19, .int .i64 (c : Int)), (122, .int .i64 (c : Int))] [] (by kernel_rfl) (sSeq ?_)))))
        have hc2 : c < 2 := by omega
        have hls : (lastS t ((c : Nat) : Int)).1.seq = ((nN p c : Nat) : Int) := (hO.last c hc2).trans (by rw [nR_self hc2])
        have hbk : posA back 2 < 2 := posA_lt (by omega)
        have hnp : nN p c ≤ 31 := by unfold nN; omega
        refine sReg (lRunS 2 [] [(125, .int .i64 (c : Int)), (124, .pointer (some ⟨tb, 0, none⟩))] [] (by kernel_rfl) ?_)
        refine lCallR [0, 1, 2, 3] [0, 1, 2, 3, 4, 5, 6] (c_last W (gB gT gF) tb ta tc tj t ((c : Nat) : Int)) (by kernel_rfl) (by kernel_rfl) (by kernel_rfl) (by kernel_rfl) (by kernel_rfl) (lRunS 2 [] [(127, .int .i64 ((lastS t ((c : Nat) : Int)).1.seq)), (123, .tuple #[.int .i64 ((lastS t ((c : Nat) : Int)).1.seq), .int .i64 ((lastS t ((c : Nat) : Int)).2)])] [] (by kernel_rfl) (lOv (v := .int .i64 ((nN p c : Nat) : Int)) (v0 := .int .i64 ((lastS t ((c : Nat) : Int)).1.seq)) 127 (congrArg (Value.int .i64) hls) (by kernel_rfl) (lRunS 3 [] [(21, .int .i64 ((lastS t ((c : Nat) : Int)).2)), (20, .int .i64 ((nN p c : Nat) : Int)), (128, .int .i64 ((lastS t ((c : Nat) : Int)).2))] [] (by kernel_rfl) (lEnd (sSeq ?_)))))
        refine sReg (lRunS 4 [] [(132, .int .u64 ((IntKind.u64.wrap back).tmod 2)), (131, .int .u64 (IntKind.u64.wrap back)), (130, .int .i64 back), (129, .int .i64 ((nN p c : Nat) : Int))] [] (by kernel_rfl) (lOv (v := .int .u64 ((posA back 2 : Nat) : Int)) (v0 := .int .u64 ((IntKind.u64.wrap back).tmod 2)) 132 (congrArg (Value.int .u64) (by have := posA_eq (at_ := back) (n := 2); exact this)) (by kernel_rfl) (lRunS 1 [] [(133, .int .i64 (IntKind.i64.wrap ((posA back 2 : Nat) : Int)))] [] (by kernel_rfl) (lOv (v := .int .i64 ((posA back 2 : Nat) : Int)) (v0 := .int .i64 (IntKind.i64.wrap ((posA back 2 : Nat) : Int))) 133 (congrArg (Value.int .i64) (wrap_i64 (by omega))) (by kernel_rfl) (lRunS 1 [] [(134, .int .i64 (IntKind.i64.wrap (((nN p c : Nat) : Int) - ((posA back 2 : Nat) : Int))))] [] (by kernel_rfl) ?_)))))
        refine lOv 134 (iw (x := ((nN p c : Nat) : Int) - ((posA back 2 : Nat) : Int)) (by omega)) (by kernel_rfl) (lRunS 1 [] [(135, .int .i64 (if 0 > (((nN p c : Nat) : Int) - ((posA back 2 : Nat) : Int)) then 0 else (((nN p c : Nat) : Int) - ((posA back 2 : Nat) : Int))))] [] (by kernel_rfl) (lOv (v := .int .i64 ((nN p c - posA back 2 : Nat) : Int)) (v0 := .int .i64 (if 0 > (((nN p c : Nat) : Int) - ((posA back 2 : Nat) : Int)) then 0 else (((nN p c : Nat) : Int) - ((posA back 2 : Nat) : Int)))) 135 (congrArg (Value.int .i64) (by split <;> omega)) (by kernel_rfl) (lRunS 1 [] [(22, .int .i64 ((nN p c - posA back 2 : Nat) : Int))] [] (by kernel_rfl) (lEnd (sSeq ?_)))))
        refine rRunS [] [(138, .int .i64 0), (137, .int .i64 (am.length : Int)), (136, .slice dl.a am.length dl.cap)] [] (by kernel_rfl) (sBlock ?_)
        refine sLoop (fun (x_ : Nat × Srv × SD) => match x_ with | (i, t, tj) => [(138, .int .i64 (i : Int)), (137, .int .i64 (am.length : Int)), (136, .slice dl.a am.length dl.cap), (120, .int .i64 (c : Int)), (22, .int .i64 ((nN p c - posA back 2 : Nat) : Int)), (20, .int .i64 ((nN p c : Nat) : Int)), (19, .int .i64 (c : Int)), (17, .pointer (some ⟨tb, 0, none⟩)), (8, .map (some b1)), (7, .slice dl.a am.length dl.cap), (2, .int .i64 back)]) (fun (x_ : Nat × Srv × SD) => match x_ with | (i, t, tj) => [[(tb, .cells #[.map (some ta), .map (some tc), .slice tj.a t.jr.length tj.cap, .int .i64 ((t.cnt : Nat) : Int)] 82)], [(ta, .map (mkM Value.string (alM t.acc 0)) t.acc.length)], [(tc, .map (mkM (Value.int .i64) (clM t.cli 0)) t.cli.length)], SD.blk 5 encByte tj t.jr, [(b1, .map (mkM Value.string (alM (runS (onceL am)).acc 0)) ((runS (onceL am)).acc.length))], SD.blk 30 encReq dl (onceL am), F]) (fun (x_ : Nat × Srv × SD) => match x_ with | (i, t, tj) => i ≤ am.length ∧ tj.ok 1 t.jr.length ∧ Onc (onceL am) t (nR am.length p c i)) (fun (x_ : Nat × Srv × SD) => match x_ with | (i, t, tj) => am.length - i) (0, t, tj) ⟨by omega, htj, hO⟩ (by kernel_rfl) rfl ?_
        rintro ⟨i, t, tj⟩ ⟨hi, htj, hO⟩
        have hol := onceL_len am
        refine sSeq (rRunS [] [(139, .bool (decide ((i : Int) < (am.length : Int))))] [] (by kernel_rfl) (sSeq ?_))
        refine sIfP (bpD ((i : Int) < (am.length : Int))) (by kernel_rfl) (fun h4 => ?_) (fun h4 => ?_)
        · refine sSkip (sSeq (sBlock (sSeq (sReg (lRunS 1 [] [(140, .int .i64 (i : Int))] [] (by kernel_rfl) ?_)))))
          obtain ⟨q9, hq9⟩ := sd_at hdl (by omega)
          refine lR (u := .pointer (some ⟨q9, i * 4, none⟩)) (runIndexD0 (T := 22) (E := 30) (n := am.length) (c := dl.cap) (b := q9) (k := 4) (ik := .i64) i hq9 (by kernel_rfl) (by kernel_rfl) (by omega)) (by kernel_rfl) (by kernel_rfl) (by kernel_rfl) ?_
          obtain ⟨x10, hx10⟩ : ∃ x, (onceL am)[i]? = some x := ⟨_, List.getElem?_eq_getElem (by (try simp only [List.length_set, List.length_append, List.length_replicate, List.length_cons, List.length_nil]); omega)⟩
          refine lR (u := .agg #[.int .i64 x10.client, .int .i64 x10.seq, .string x10.key, .int .i64 x10.amount]) (runLoadS (f := encReq) (T := 30) (b := q9) (k := 4) (T' := 30) (rest := dl.rest) (fun _ => rfl) (6, 0) (sd_at0 hq9 5 (by kernel_rfl)) hx10 (by kernel_rfl) (by kernel_rfl)) (by kernel_rfl) (by kernel_rfl) (by kernel_rfl) ?_
          obtain ⟨mm, hmm, rfl⟩ := onceL_at hx10
          have hsq : (onceR i mm).seq = ((i / 2 + 1 : Nat) : Int) := rfl
          have hxq : (onceR i mm).seq ≤ 9223372036854775807 := by omega
          refine lRunN 3 [(2, 8, 0)] (fun b11 => [(23, .int .i64 (i : Int)), (24, .pointer (some ⟨b11, 0, none⟩))]) (fun b11 => []) (fun b11 => .cells #[.int .i64 ((onceR i mm).client), .int .i64 ((onceR i mm).seq), .string ((onceR i mm).key), .int .i64 ((onceR i mm).amount)] 30) (fun b11 => [b11, b11, b11, b11]) (fun b11 => by kernel_rfl) (fun b11 => ?_)
          refine lEnd (sSeq (sReg (lRunS 2 [] [(144, .int .i64 ((i : Int).tmod 2)), (143, .int .i64 (i : Int))] [] (by kernel_rfl) (lOv (v := .int .i64 ((i % 2 : Nat) : Int)) (v0 := .int .i64 ((i : Int).tmod 2)) 144 (congrArg (Value.int .i64) (tm2 i)) (by kernel_rfl) (lRunS 3 [] [(147, .bool (decide (((i % 2 : Nat) : Int) = (c : Int)))), (146, .bool (decide (((i % 2 : Nat) : Int) = (c : Int)))), (145, .int .i64 (c : Int))] [] (by kernel_rfl) ?_)))))
          refine lShort 5 [(1, 8, 0)] 147 (decide (((i % 2 : Nat) : Int) = (c : Int))) 152 (decide (((onceR i mm).seq) > ((nN p c - posA back 2 : Nat) : Int))) false [(151, .bool (decide (((onceR i mm).seq) > ((nN p c - posA back 2 : Nat) : Int)))), (150, .int .i64 ((nN p c - posA back 2 : Nat) : Int)), (149, .int .i64 ((onceR i mm).seq)), (148, .pointer (some ⟨b11, 1, none⟩))] [(151, undef), (150, undef), (149, undef), (148, undef)] [b11] [] (by kernel_rfl) (by kernel_rfl) (by kernel_rfl) (by kernel_rfl) (lEnd ?_)
          refine sIfP (bpA (bpD (((i % 2 : Nat) : Int) = (c : Int))) (bpD (((onceR i mm).seq) > ((nN p c - posA back 2 : Nat) : Int)))) (by kernel_rfl) (fun h5 => ?_) (fun h5 => ?_)
          · have hic : i % 2 = c := by have := h5.1; omega
            refine sSeq (sReg (lRunS 2 [(1, 8, 0)] [(155, .agg #[.int .i64 ((onceR i mm).client), .int .i64 ((onceR i mm).seq), .string ((onceR i mm).key), .int .i64 ((onceR i mm).amount)]), (154, .pointer (some ⟨tb, 0, none⟩))] [b11, b11, b11, b11] (by kernel_rfl) ?_))
            rcases Nat.lt_or_ge (nN p c) (i / 2 + 1) with hgt | hle
            · have hst := hO.step ha hmm (nR_at hic hgt)
              refine lCallP [0, 1, 2, 3] (c_do W (gB gT gF) tb ta tc tj t (onceR i mm) hxq hO.ok htj) (by kernel_rfl) (by kernel_rfl) (by kernel_rfl) ?_
              rintro tj2 htj2
              refine lRunS 1 [] [(153, resV t (onceR i mm))] [] (by kernel_rfl) (lOv (v := .tuple #[.int .i64 (newV t (onceR i mm)), .bool true, .int .i64 0]) (v0 := resV t (onceR i mm)) 153 (res_k hst.1) (by kernel_rfl) (lRunS 6 [] [(27, .int .i64 0), (26, .bool true), (25, .int .i64 (newV t (onceR i mm))), (159, .int .i64 0), (158, .bool true), (157, .int .i64 (newV t (onceR i mm)))] [] (by kernel_rfl) (lEnd (sSeq (sReg ?_)))))
              refine lRunS 9 [(5, 8, 0)] [(168, .bool (!(true == (decide (((onceR i mm).seq) > ((nN p c : Nat) : Int)))))), (167, .bool (decide (((onceR i mm).seq) > ((nN p c : Nat) : Int)))), (166, .int .i64 ((nN p c : Nat) : Int)), (165, .int .i64 ((onceR i mm).seq)), (164, .pointer (some ⟨b11, 1, none⟩)), (163, .bool true), (162, .bool false), (161, .bool false), (160, .int .i64 0)] [b11] (by kernel_rfl) (lOv (v := .bool false) (v0 := .bool (!(true == (decide (((onceR i mm).seq) > ((nN p c : Nat) : Int)))))) 168 (congrArg Value.bool (by rw [decide_eq_true (show ((onceR i mm).seq) > ((nN p c : Nat) : Int) by omega)]; rfl)) (by kernel_rfl) (lRunS 1 [] [(169, .bool false)] [] (by kernel_rfl) (lEnd (sIfF (by kernel_rfl) (sSkip ?_)))))
              refine sEnd (sReg (lRunS 1 [] [(170, .int .i64 (IntKind.i64.wrap ((i : Int) + 1)))] [] (by kernel_rfl) (lOv 170 (iw (x := (i : Int) + 1) (by omega)) (by kernel_rfl) (lRunS 1 [] [(138, .int .i64 ((i : Int) + 1))] [] (by kernel_rfl) (lEnd ?_)))))
              exact sPick [0, 1, 2, 3, 4, 5, 6] (by kernel_rfl) (by kernel_rfl) (sAgain (i + 1, (doS t (onceR i mm)), tj2) ⟨by omega, htj2, hst.2.congr fun x hx => nR_step hic hgt hx⟩ (by first | omega | (simp only []; omega)) (by kernel_rfl) rfl)
            · have hk4 := hO.again ha hmm (nR_again hic (by have := h5.2; omega))
              refine lCallP [0, 1, 2, 3] (c_do W (gB gT gF) tb ta tc tj t (onceR i mm) hxq hO.ok htj) (by kernel_rfl) (by kernel_rfl) (by kernel_rfl) ?_
              rintro tj2 htj2
              refine lRunS 1 [] [(153, resV t (onceR i mm))] [] (by kernel_rfl) (lOv (v := .tuple #[.int .i64 ((lastS t (onceR i mm).client).2), .bool false, .int .i64 0]) (v0 := resV t (onceR i mm)) 153 (res_k hk4) (by kernel_rfl) (lRunS 6 [] [(27, .int .i64 0), (26, .bool false), (25, .int .i64 ((lastS t (onceR i mm).client).2)), (159, .int .i64 0), (158, .bool false), (157, .int .i64 ((lastS t (onceR i mm).client).2))] [] (by kernel_rfl) (lEnd (sSeq (sReg ?_)))))
              refine lRunS 9 [(5, 8, 0)] [(168, .bool (!(false == (decide (((onceR i mm).seq) > ((nN p c : Nat) : Int)))))), (167, .bool (decide (((onceR i mm).seq) > ((nN p c : Nat) : Int)))), (166, .int .i64 ((nN p c : Nat) : Int)), (165, .int .i64 ((onceR i mm).seq)), (164, .pointer (some ⟨b11, 1, none⟩)), (163, .bool false), (162, .bool false), (161, .bool false), (160, .int .i64 0)] [b11] (by kernel_rfl) (lOv (v := .bool false) (v0 := .bool (!(false == (decide (((onceR i mm).seq) > ((nN p c : Nat) : Int)))))) 168 (congrArg Value.bool (by rw [decide_eq_false (show ¬ (((onceR i mm).seq) > ((nN p c : Nat) : Int)) by omega)]; rfl)) (by kernel_rfl) (lRunS 1 [] [(169, .bool false)] [] (by kernel_rfl) (lEnd (sIfF (by kernel_rfl) (sSkip ?_)))))
              refine sEnd (sReg (lRunS 1 [] [(170, .int .i64 (IntKind.i64.wrap ((i : Int) + 1)))] [] (by kernel_rfl) (lOv 170 (iw (x := (i : Int) + 1) (by omega)) (by kernel_rfl) (lRunS 1 [] [(138, .int .i64 ((i : Int) + 1))] [] (by kernel_rfl) (lEnd ?_)))))
              exact sPick [0, 1, 2, 3, 4, 5, 6] (by kernel_rfl) (by kernel_rfl) (sAgain (i + 1, (doS t (onceR i mm)), tj2) ⟨by omega, htj2, by rw [doS_ne hk4 (by decide)]; exact hO.congr fun x hx => nR_skip (.inr (by omega)) hc2 hx⟩ (by first | omega | (simp only []; omega)) (by kernel_rfl) rfl)
          · have hskip := skip_of hsq h5
            refine sSkip (sEnd (sReg (lRunS 1 [] [(170, .int .i64 (IntKind.i64.wrap ((i : Int) + 1)))] [] (by kernel_rfl) (lOv 170 (iw (x := (i : Int) + 1) (by omega)) (by kernel_rfl) (lRunS 1 [] [(138, .int .i64 ((i : Int) + 1))] [] (by kernel_rfl) ?_)))))
            refine lEnd ?_
            exact sPick [0, 1, 2, 3, 4, 5, 6] (by kernel_rfl) (by kernel_rfl) (sAgain (i + 1, t, tj) ⟨by omega, htj, hO.congr fun x hx => nR_skip hskip hc2 hx⟩ (by first | omega | (simp only []; omega)) (by kernel_rfl) rfl)
        · refine sExit (by kernel_rfl) (sEnd (sReg (lRunS 1 [] [(171, .int .i64 (IntKind.i64.wrap ((c : Int) + 1)))] [] (by kernel_rfl) (lOv 171 (iw (x := (c : Int) + 1) (by omega)) (by kernel_rfl) (lRunS 1 [] [(120, .int .i64 ((c : Int) + 1))] [] (by kernel_rfl) ?_)))))
          refine lEnd ?_
          exact sAgain (c + 1, t, tj) ⟨by omega, htj, by have e : i = am.length := (by omega); subst e; exact hO.congr fun x hx => nR_next hp (by omega) hx⟩ (by first | omega | (simp only []; omega)) (by kernel_rfl) rfl
      · refine sExit (by kernel_rfl) (sSeq (sSeq (sReg (lRunS 1 [] [(172, .map (some b1))] [] (by kernel_rfl) ?_))))
        refine lX (u := fun r' : Nat => .pointer (some ⟨r', 0, none⟩)) (runRange (T := 52) (K := 9) (E := 2) (b := b1) (clk := ((runS (onceL am)).acc.length)) (es := mkM Value.string (alM (runS (onceL am)).acc 0)) (by kernel_rfl) (5, 0) (by kernel_rfl)) (by kernel_rfl) (by kernel_rfl) (fun _ => by kernel_rfl) ?_
        rintro it12 -
        refine lEnd (sBlock ?_)
        have hOr := onc_run ha am.length (Nat.le_refl _)
        rw [hfull] at hOr
        have hc2e : c = 2 := by omega
        subst hc2e
        have hval : ∀ k, accV t.acc k = accV (runS (onceL am)).acc k := fun k => by rw [(hO.congr (n' := nN am.length) fun x hx => (nR_last hx).symm).acc k, hOr.acc k]
        refine sLoop (fun (vis : List Nat) => [(173, .pointer (some ⟨it12, 0, none⟩)), (17, .pointer (some ⟨tb, 0, none⟩)), (8, .map (some b1))]) (fun (vis : List Nat) => [[(tb, .cells #[.map (some ta), .map (some tc), .slice tj.a t.jr.length tj.cap, .int .i64 ((t.cnt : Nat) : Int)] 82)], [(ta, .map (mkM Value.string (alM t.acc 0)) t.acc.length)], [(tc, .map (mkM (Value.int .i64) (clM t.cli 0)) t.cli.length)], SD.blk 5 encByte tj t.jr, [(b1, .map (mkM Value.string (alM (runS (onceL am)).acc 0)) ((runS (onceL am)).acc.length))], SD.blk 30 encReq dl (onceL am), F, [(it12, .mapIter (some b1) ((runS (onceL am)).acc.length) vis.toArray ((runS (onceL am)).acc.length))]]) (fun (vis : List Nat) => vis.Nodup ∧ ∀ c ∈ vis, c < (runS (onceL am)).acc.length) (fun (vis : List Nat) => (runS (onceL am)).acc.length - vis.length) [] ⟨by simp, by simp⟩ (by kernel_rfl) rfl ?_
        rintro vis ⟨hvn, hvl⟩
        refine sSeq (sReg ?_)
        refine lX (u := fun o' : Option (_ × Value × Nat) => match o' with | none => .tuple #[.bool false] | some x => .tuple #[.bool true, Value.string x.1, x.2.1]) (runNext (ty := 0) (r := it12) (m := b1) (since := ((runS (onceL am)).acc.length)) (clk := ((runS (onceL am)).acc.length)) (enc := Value.string) (l := (alM (runS (onceL am)).acc 0)) (seen := vis.toArray) 7 (by kernel_rfl) (5, 0) (by kernel_rfl) alM_born (Nat.le_refl _)) (by kernel_rfl) (by kernel_rfl) (fun _ => by kernel_rfl) ?_
        rintro (_ | x) hv
        · refine lRunS 1 [] [(175, .bool false)] [] (by kernel_rfl) (lEnd (sSeq (sIfF (by kernel_rfl) (sExit (by kernel_rfl) (sSeq ?_)))))
          refine rRunS [] [(6, .bool true)] [] (by kernel_rfl) (sRet ?_)
          exact wRet () (0, 0) [] (.bool true) [.tmp 6] rfl (by kernel_rfl) rfl trivial (fun _ h => h.pick [6] (by kernel_rfl) (by kernel_rfl))
        · obtain ⟨k, z, c, hxe, hmc⟩ := alM_get hv.1
          obtain ⟨kx, vx, cx⟩ := x
          simp only [Nat.zero_add, Prod.mk.injEq] at hxe
          obtain ⟨rfl, rfl, rfl⟩ := hxe
          have hcl := (List.getElem?_eq_some_iff.1 hmc).1
          have hv2 : cx ∉ vis := by simpa using hv.2
          have hz : accV t.acc kx = z := (hval kx).trans (accV_of hOr.ok.nd hmc)
          refine lRunS 1 [] [(175, .bool true)] [] (by kernel_rfl) (lEnd (sSeq (sIfT (by kernel_rfl) (sSkip (sBlock ?_)))))
          refine sSeq (sReg (lR (u := .tuple #[.string kx, .int .i64 z]) (runEntry (r := it12) (m := b1) (since := ((runS (onceL am)).acc.length)) (clk := ((runS (onceL am)).acc.length)) (enc := Value.string) (l := (alM (runS (onceL am)).acc 0)) (seen := vis.toArray) (x := (kx, .int .i64 z, cx)) (8, 0) (by kernel_rfl) (5, 0) (by kernel_rfl) hv.1 (alM_nd _ 0)) (by kernel_rfl) (by kernel_rfl) (by kernel_rfl) (lRunS 4 [] [(29, .int .i64 z), (28, .string kx), (178, .int .i64 z), (177, .string kx)] [] (by kernel_rfl) (lEnd (sSeq ?_)))))
          refine sReg (lRunS 2 [] [(180, .string kx), (179, .pointer (some ⟨tb, 0, none⟩))] [] (by kernel_rfl) ?_)
          refine lCallR [0, 1, 2, 3] [0, 1, 2, 3, 4, 5, 6, 7] (c_value W (gB gT gF) tb ta tc tj t kx) (by kernel_rfl) (by kernel_rfl) (by kernel_rfl) (by kernel_rfl) (by kernel_rfl) (lRunS 2 [] [(183, .bool (!(decide ((accV t.acc kx) = z)))), (182, .int .i64 z)] [] (by kernel_rfl) (lOv (v := .bool false) (v0 := .bool (!(decide ((accV t.acc kx) = z)))) 183 (congrArg Value.bool (by simp [hz])) (by kernel_rfl) (lEnd (sIfF (by kernel_rfl) (sSkip ?_)))))
          refine sEnd ?_
          refine sRe (its' := [[(tb, .cells #[.map (some ta), .map (some tc), .slice tj.a t.jr.length tj.cap, .int .i64 ((t.cnt : Nat) : Int)] 82)], [(ta, .map (mkM Value.string (alM t.acc 0)) t.acc.length)], [(tc, .map (mkM (Value.int .i64) (clM t.cli 0)) t.cli.length)], SD.blk 5 encByte tj t.jr, [(b1, .map (mkM Value.string (alM (runS (onceL am)).acc 0)) ((runS (onceL am)).acc.length))], SD.blk 30 encReq dl (onceL am), F, [(it12, .mapIter (some b1) ((runS (onceL am)).acc.length) ((vis ++ [cx]).toArray) ((runS (onceL am)).acc.length))]]) (by rw [← List.push_toArray vis cx]; rfl) ?_
          exact sAgain (vis ++ [cx]) ⟨by rw [List.nodup_append]; refine ⟨hvn, by simp, ?_⟩; intro a ha b hb e; simp only [List.mem_singleton] at hb; subst hb; subst e; exact hv2 ha, fun q hq => (List.mem_append.1 hq).elim (hvl q) (fun hq => by simp only [List.mem_singleton] at hq; omega)⟩ (by have := vis_len hvn hvl hcl hv2; simp only [List.length_append, List.length_singleton]; omega) (by kernel_rfl) rfl

end Go.Proofs.YtljfjiaiachbfaaDoor
