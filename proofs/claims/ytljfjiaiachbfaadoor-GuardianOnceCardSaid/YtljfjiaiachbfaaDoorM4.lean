/- What Recover reads from bytes, as Lean functions, with plain laws on it. -/
import Derived.Test.YtljfjiaiachbfaaDoorM3
set_option linter.unusedVariables false
set_option linter.unusedSimpArgs false
namespace Go.Sx.Gd
open Go Go.Sx
/-! ### The entries with which a journal begins -/
def szAt (x : List UInt8) : Nat := 21 + ((x[20]?).getD 0).toNat
def reqAt (x : List UInt8) : Req := ⟨IntKind.i64.wrap (valN (x.take 4) : Nat), IntKind.i64.wrap (valN ((x.drop 4).take 8) : Nat), ⟨((x.drop 21).take (szAt x - 21)).toArray⟩, IntKind.i64.wrap (valN ((x.drop 12).take 8) : Nat)⟩
def okAt (x : List UInt8) : Prop := 25 ≤ x.length ∧ szAt x + 4 ≤ x.length ∧ valN ((x.drop (szAt x)).take 4) = sumB (x.take (szAt x))
instance (x : List UInt8) : Decidable (okAt x) := by unfold okAt; infer_instance
def entL : Nat → List UInt8 → Nat → List (Nat × Req)
  | 0, _, _ => []
  | f + 1, b, p => if okAt (b.drop p) then (p + (szAt (b.drop p) + 4), reqAt (b.drop p)) :: entL f b (p + (szAt (b.drop p) + 4)) else []
def recF : Nat → List UInt8 → Nat → Srv → Srv × Nat
  | 0, _, p, s => (s, p)
  | f + 1, b, p, s => if okAt (b.drop p) then (if doK s (reqAt (b.drop p)) = 6 then recF f b (p + (szAt (b.drop p) + 4)) (doS s (reqAt (b.drop p))) else (s, p)) else (s, p)
def recE : List (Nat × Req) → Srv × Nat → Srv × Nat
  | [], st => st
  | x :: l, st => if doK st.1 x.2 = 6 then recE l (doS st.1 x.2, x.1) else st
theorem recE_entL : ∀ (f : Nat) (b : List UInt8) (p : Nat) (s : Srv), recE (entL f b p) (s, p) = recF f b p s
  | 0, _, _, _ => rfl
  | f + 1, b, p, s => by
    simp only [entL, recF]
    by_cases h : okAt (b.drop p)
    · rw [if_pos h, if_pos h]
      simp only [recE]
      split
      · exact recE_entL f b _ _
      · rfl
    · rw [if_neg h, if_neg h]; rfl
def recM (b : List UInt8) : Srv × Nat := recF b.length b 0 srv0
theorem recF_ok : ∀ (f : Nat) (b : List UInt8) (p : Nat) (s : Srv), SrvOk s → SrvOk (recF f b p s).1
  | 0, _, _, _, h => h
  | f + 1, b, p, s, h => by
    simp only [recF]
    split
    · split
      · exact recF_ok f b _ _ (doS_ok h _)
      · exact h
    · exact h
theorem recE_ok : ∀ (l : List (Nat × Req)) (s : Srv × Nat), SrvOk s.1 → SrvOk (recE l s).1
  | [], _, h => h
  | x :: l, s, h => by
    simp only [recE]
    split
    · exact recE_ok l _ (doS_ok h _)
    · exact h
theorem recE_snoc : ∀ (l : List (Nat × Req)) (x : Nat × Req) (s t : Srv × Nat), (∀ l1 y l2, l = l1 ++ y :: l2 → doK (recE l1 s).1 y.2 = 6) → recE l s = t → recE (l ++ [x]) s = if doK t.1 x.2 = 6 then (doS t.1 x.2, x.1) else t
  | [], x, s, t, _, h => by simp only [recE] at h; subst h; simp only [List.nil_append, recE]
  | y :: l, x, s, t, hl, h => by
    have h0 := hl [] y l rfl
    simp only [recE] at h0
    simp only [List.cons_append, recE] at h ⊢
    rw [if_pos h0] at h ⊢
    exact recE_snoc l x _ t (fun l1 z l2 e => by have := hl (y :: l1) z l2 (by rw [e]; rfl); simpa only [recE, if_pos h0] using this) h
theorem szAt_ge (x : List UInt8) : 21 ≤ szAt x := by unfold szAt; omega
theorem szAt_le (x : List UInt8) : szAt x ≤ 276 := by
  unfold szAt; have := ((x[20]?).getD 0).toNat_lt; omega
theorem i64_small {n : Nat} (h : n < 9223372036854775808) : IntKind.i64.wrap (n : Int) = (n : Int) := wrap_i64 (by omega)
theorem valN_lt4 {l : List UInt8} (h : l.length ≤ 4) : valN l < 4294967296 := by
  have := valN_lt l
  have h2 := pow256_le h
  have h3 : (256 : Nat) ^ 4 = 4294967296 := by decide
  omega
theorem valN_lt8 {l : List UInt8} (h : l.length ≤ 8) : valN l < 18446744073709551616 := by
  have := valN_lt l
  have h2 := pow256_le h
  have h3 : (256 : Nat) ^ 8 = 18446744073709551616 := by decide
  omega
theorem i64_mod (n : Nat) (h : n < 18446744073709551616) : (IntKind.i64.wrap (n : Int) % 18446744073709551616).toNat = n := by
  simp only [IntKind.wrap, IntKind.bits, IntKind.signed, Bool.true_and, decide_eq_true_eq]
  simp only [show (2 : Int) ^ 64 = 18446744073709551616 from rfl, show (2 : Int) ^ (64 - 1) = 9223372036854775808 from rfl]
  split <;> omega
theorem numB_at {l : List UInt8} {k : Nat} (hl : l.length = k) (hk : k ≤ 8) : numB (IntKind.i64.wrap (valN l : Nat)) k = l := by
  subst hl
  refine numB_valN l _ ?_
  rw [i64_mod _ (valN_lt8 hk)]
  exact Nat.mod_eq_of_lt (valN_lt l)
/-- The entry of the request that was read is what was read. -/
theorem entB_reqAt {x : List UInt8} (h : okAt x) : entB (reqAt x) = x.take (szAt x + 4) := by
  obtain ⟨h1, h2, h3⟩ := h
  have hz := szAt_ge x
  have hz2 := szAt_le x
  have l4 : (x.take 4).length = 4 := by rw [List.length_take]; omega
  have l8 : ((x.drop 4).take 8).length = 8 := by rw [List.length_take, List.length_drop]; omega
  have l12 : ((x.drop 12).take 8).length = 8 := by rw [List.length_take, List.length_drop]; omega
  have e1 : hdB (reqAt x) = x.take 20 := by
    unfold hdB reqAt
    simp only []
    rw [numB_at l4 (by decide), numB_at l8 (by decide), numB_at l12 (by decide)]
    have : x.take 20 = x.take 4 ++ (x.drop 4).take 16 := by rw [← List.take_add]
    rw [this, List.append_assoc]
    have : (x.drop 4).take 16 = (x.drop 4).take 8 ++ ((x.drop 4).drop 8).take 8 := by rw [← List.take_add]
    rw [this, List.drop_drop]
  have hb : ∃ y, x[20]? = some y := ⟨_, List.getElem?_eq_getElem (by omega)⟩
  obtain ⟨y, hy⟩ := hb
  have hsz : szAt x = 21 + y.toNat := by unfold szAt; rw [hy]; rfl
  have hkey : (reqAt x).key.data.toList = (x.drop 21).take (szAt x - 21) := by simp [reqAt]
  have hks : (reqAt x).key.size = y.toNat := by
    show (reqAt x).key.data.size = _
    rw [← Array.length_toList, hkey, List.length_take, List.length_drop]; omega
  have e2 : bodyB (reqAt x) = x.take (szAt x) := by
    unfold bodyB
    rw [e1, hkey, hks]
    have e3 : UInt8.ofNat y.toNat = y := by simp
    rw [e3]
    have : x.take (szAt x) = x.take 21 ++ (x.drop 21).take (szAt x - 21) := by rw [← List.take_add]; congr 1; omega
    have h21 : x.take 21 = x.take 20 ++ [y] := by have h := List.take_add_one (l := x) (i := 20); rw [hy] at h; simpa using h
    rw [this, h21]
  unfold entB
  rw [e2, ← h3]
  have l4' : ((x.drop (szAt x)).take 4).length = 4 := by rw [List.length_take, List.length_drop]; omega
  have e4 : numB ((valN ((x.drop (szAt x)).take 4) : Nat) : Int) 4 = (x.drop (szAt x)).take 4 := by
    have := numB_at l4' (by decide)
    rwa [i64_small (by have := valN_lt4 (l := (x.drop (szAt x)).take 4) (by omega); omega)] at this
  rw [e4, ← List.take_add]
theorem i64_le (n : Int) : IntKind.i64.wrap n ≤ 9223372036854775807 := by
  unfold IntKind.wrap
  simp [IntKind.bits, IntKind.signed]
  split <;> omega
theorem reqAt_seq (x : List UInt8) : (reqAt x).seq ≤ 9223372036854775807 := i64_le _
theorem recF_jr : ∀ (f : Nat) (b : List UInt8) (p : Nat) (s : Srv), s.jr = b.take p → p ≤ b.length → (recF f b p s).1.jr = b.take (recF f b p s).2 ∧ (recF f b p s).2 ≤ b.length
  | 0, _, _, _, h, hp => ⟨h, hp⟩
  | f + 1, b, p, s, h, hp => by
    simp only [recF]
    split
    · rename_i ho
      split
      · rename_i hk
        have hl := ho.2.1
        rw [List.length_drop] at hl
        refine recF_jr f b _ _ ?_ (by omega)
        unfold doS
        rw [if_pos hk]
        show s.jr ++ entB _ = _
        rw [h, entB_reqAt ho, ← List.take_add]
      · exact ⟨h, hp⟩
    · exact ⟨h, hp⟩
theorem recM_jr (b : List UInt8) : (recM b).1.jr = b.take (recM b).2 ∧ (recM b).2 ≤ b.length := recF_jr _ b 0 srv0 (by simp [srv0]) (Nat.zero_le _)
theorem recM_ok (b : List UInt8) : SrvOk (recM b).1 := recF_ok _ _ _ _ srv0_ok
end Go.Sx.Gd
