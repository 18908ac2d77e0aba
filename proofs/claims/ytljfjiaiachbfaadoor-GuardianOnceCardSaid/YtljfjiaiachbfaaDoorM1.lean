/- Requests, bytes, entries and the server as Lean functions, with plain laws on them. -/
import Derived.Test.YtljfjiaiachbfaaDoorSp
set_option linter.unusedVariables false
set_option linter.unusedSimpArgs false
namespace Go.Sx.Gd
open Go Go.Sx
/-! ### Requests, bytes, entries -/
structure Req where
  client : Int
  seq : Int
  key : ByteArray
  amount : Int
instance : DecidableEq Req := fun a b => by
  refine decidable_of_iff (a.client = b.client ∧ a.seq = b.seq ∧ a.key = b.key ∧ a.amount = b.amount) ?_
  cases a; cases b; simp
def encReq (r : Req) : List Value := [.int .i64 r.client, .int .i64 r.seq, .string r.key, .int .i64 r.amount]
theorem one_encReq {x : Req} {u : Value} (h : u ∈ encReq x) : oneC u = true := by
  simp only [encReq, List.mem_cons, List.mem_nil_iff, or_false] at h
  rcases h with rfl | rfl | rfl | rfl <;> rfl
def encByte (b : UInt8) : List Value := [Extern.Stop.cell b]
theorem one_encByte {x : UInt8} {u : Value} (h : u ∈ encByte x) : oneC u = true := by simp only [encByte, List.mem_singleton] at h; subst h; rfl
def byteAt (n : Int) (i : Nat) : UInt8 := UInt8.ofNat ((n % 18446744073709551616).toNat / 256 ^ i)
def numB (n : Int) (c : Nat) : List UInt8 := (List.range c).map (byteAt n)
theorem numB_len (n : Int) (c : Nat) : (numB n c).length = c := by simp [numB]
theorem numB_succ (n : Int) (c : Nat) : numB n (c + 1) = numB n c ++ [byteAt n c] := by simp [numB, List.range_succ]
def sumS (a : Nat) (x : UInt8) : Nat := (a * 33 + x.toNat) % 4294967296
def sumB (l : List UInt8) : Nat := l.foldl sumS 7
theorem sumB_lt (l : List UInt8) : sumB l < 4294967296 := by
  unfold sumB
  have : ∀ (l : List UInt8) (a : Nat), a < 4294967296 → l.foldl sumS a < 4294967296 := by
    intro l
    induction l with
    | nil => intro a h; exact h
    | cons x l ih => intro a h; exact ih _ (Nat.mod_lt _ (by decide))
  exact this l 7 (by decide)
theorem sumB_take {l : List UInt8} {i : Nat} {x : UInt8} (h : l[i]? = some x) : sumB (l.take (i + 1)) = sumS (sumB (l.take i)) x := by
  unfold sumB
  rw [List.take_add_one, h]
  simp
def hdB (r : Req) : List UInt8 := numB r.client 4 ++ numB r.seq 8 ++ numB r.amount 8
def bodyB (r : Req) : List UInt8 := hdB r ++ [UInt8.ofNat r.key.size] ++ r.key.data.toList
def entB (r : Req) : List UInt8 := bodyB r ++ numB (sumB (bodyB r) : Nat) 4
theorem hdB_len (r : Req) : (hdB r).length = 20 := by simp [hdB, numB_len]
theorem bodyB_len (r : Req) : (bodyB r).length = 21 + r.key.size := by
  simp only [bodyB, List.length_append, hdB_len, List.length_singleton, Array.length_toList]; rfl
theorem entB_len (r : Req) : (entB r).length = 25 + r.key.size := by
  simp only [entB, List.length_append, bodyB_len, numB_len]; omega
/-! Words -/
theorem wrap_u8 (x : Int) : IntKind.u8.wrap x = x % 256 := by simp [IntKind.wrap, IntKind.bits, IntKind.signed]
theorem wrap_u32 (x : Int) : IntKind.u32.wrap x = x % 4294967296 := by simp [IntKind.wrap, IntKind.bits, IntKind.signed]
theorem wrap_u64 (x : Int) : IntKind.u64.wrap x = x % 18446744073709551616 := by simp [IntKind.wrap, IntKind.bits, IntKind.signed]
theorem cell_byteAt (n : Int) (i : Nat) : Extern.Stop.cell (byteAt n i) = .int .u8 ((((n % 18446744073709551616).toNat / 256 ^ i % 256 : Nat)) : Int) := by
  show Value.int .u8 ((byteAt n i).toNat : Int) = _
  simp [byteAt, UInt8.toNat_ofNat']
theorem byteP (n : Int) (i : Nat) : Value.int .u8 (IntKind.u8.wrap ((IntKind.u64.wrap n).fdiv (2 ^ (8 * i)))) = Extern.Stop.cell (byteAt n i) := by
  rw [cell_byteAt, wrap_u8, wrap_u64]
  have h0 : 0 ≤ n % 18446744073709551616 := Int.emod_nonneg _ (by decide)
  obtain ⟨m, hm⟩ := Int.eq_ofNat_of_zero_le h0
  rw [hm]
  congr 1
  have e : (2 : Int) ^ (8 * i) = ((256 ^ i : Nat) : Int) := by
    rw [Int.natCast_pow, Int.pow_mul]; rfl
  rw [e, Int.fdiv_eq_ediv_of_nonneg _ (Int.natCast_nonneg _)]
  show (m : Int) / ((256 ^ i : Nat) : Int) % 256 = (((m / 256 ^ i % 256 : Nat)) : Int)
  rw [Int.natCast_emod, Int.natCast_ediv]; rfl
def xAt (n : Int) (i : Nat) : Nat := (n % 18446744073709551616).toNat / 256 ^ i
theorem xAt_lt (n : Int) (i : Nat) : xAt n i < 18446744073709551616 := by
  unfold xAt
  have h0 : 0 ≤ n % 18446744073709551616 := Int.emod_nonneg _ (by decide)
  have h1 : n % 18446744073709551616 < 18446744073709551616 := Int.emod_lt_of_pos _ (by decide)
  refine Nat.lt_of_le_of_lt (Nat.div_le_self _ _) (by omega)
theorem byteR (n : Int) (i : Nat) : Value.int .u8 (IntKind.u8.wrap ((xAt n i : Nat) : Int)) = Extern.Stop.cell (byteAt n i) := by
  rw [cell_byteAt, wrap_u8]; unfold xAt; rw [Int.natCast_emod]; rfl
theorem xAt_zero (n : Int) : IntKind.u64.wrap n = ((xAt n 0 : Nat) : Int) := by
  rw [wrap_u64]; unfold xAt
  have h0 : 0 ≤ n % 18446744073709551616 := Int.emod_nonneg _ (by decide)
  simp only [Nat.pow_zero, Nat.div_one]; omega
theorem xAt_succ (n : Int) (i : Nat) : IntKind.u64.wrap (((xAt n i : Nat) : Int).tdiv 256) = ((xAt n (i + 1) : Nat) : Int) := by
  have h1 := xAt_lt n i
  rw [wrap_u64]
  have e : xAt n (i + 1) = xAt n i / 256 := by unfold xAt; rw [Nat.pow_succ, Nat.div_div_eq_div_mul]
  rw [e, Int.tdiv_eq_ediv_of_nonneg (by omega)]
  have : ((xAt n i / 256 : Nat) : Int) = ((xAt n i : Nat) : Int) / 256 := by rw [Int.natCast_ediv]; rfl
  omega
theorem sumStep (a : Nat) (x : UInt8) : IntKind.u32.wrap (IntKind.u32.wrap ((a : Int) * 33) + IntKind.u32.wrap ((x.toNat : Nat) : Int)) = ((sumS a x : Nat) : Int) := by
  simp only [wrap_u32]; unfold sumS; omega
/-! ### The server -/
structure Srv where
  acc : List (ByteArray × Int)
  cli : List (Req × Int)
  jr : List UInt8
  cnt : Nat
def srv0 : Srv := ⟨[], [], [], 0⟩
def accO : List (ByteArray × Int) → ByteArray → Option Int
  | [], _ => none
  | x :: l, k => if k = x.1 then some x.2 else accO l k
def accV (l : List (ByteArray × Int)) (k : ByteArray) : Int := (accO l k).getD 0
def accSet : List (ByteArray × Int) → ByteArray → Int → List (ByteArray × Int)
  | [], k, v => [(k, v)]
  | x :: l, k, v => if k = x.1 then (k, v) :: l else x :: accSet l k v
def cliO : List (Req × Int) → Int → Option (Req × Int)
  | [], _ => none
  | x :: l, n => if n = x.1.client then some x else cliO l n
def req0 : Req := ⟨0, 0, ⟨#[]⟩, 0⟩
def lastS (s : Srv) (n : Int) : Req × Int := (cliO s.cli n).getD (req0, 0)
def cliSet : List (Req × Int) → Req → Int → List (Req × Int)
  | [], r, v => [(r, v)]
  | x :: l, r, v => if r.client = x.1.client then (r, v) :: l else x :: cliSet l r v
def namedE (k : ByteArray) : Int := if k = ⟨#[]⟩ then 9 else if k.size > 64 then 21 else 0
def newV (s : Srv) (r : Req) : Int := accV s.acc r.key + r.amount
def rangeBad (r : Req) : Prop := r.client < 0 ∨ r.client > 2147483647 ∨ r.seq < 1 ∨ r.amount < -1099511627776 ∨ r.amount > 1099511627776
instance (r : Req) : Decidable (rangeBad r) := by unfold rangeBad; infer_instance
def valBad (s : Srv) (r : Req) : Prop := newV s r < -1152921504606846976 ∨ newV s r > 1152921504606846976 ∨ 1000 ≤ s.cnt
instance (s : Srv) (r : Req) : Decidable (valBad s r) := by unfold valBad; infer_instance
/-- How a request ends: out of range, a bad name, out of order, another request of that number, a repetition, beyond the limit, executed. -/
def doK (s : Srv) (r : Req) : Nat :=
  if rangeBad r then 0 else if namedE r.key ≠ 0 then 1
  else if r.seq ≠ (lastS s r.client).1.seq ∧ r.seq - 1 ≠ (lastS s r.client).1.seq then 2
  else if r.seq = (lastS s r.client).1.seq ∧ r ≠ (lastS s r.client).1 then 3
  else if r.seq = (lastS s r.client).1.seq then 4
  else if valBad s r then 5 else 6
def doE (s : Srv) (r : Req) : Int := match doK s r with
  | 0 => 34 | 1 => namedE r.key | 2 => 30 | 3 => 14 | 4 => 0 | 5 => 18 | _ => 0
def doB (s : Srv) (r : Req) : Bool := match doK s r with
  | 0 => false | 1 => false | 2 => false | 3 => false | 4 => false | 5 => false | _ => true
def doV (s : Srv) (r : Req) : Int := match doK s r with
  | 0 => 0 | 1 => 0 | 2 => 0 | 3 => 0 | 4 => (lastS s r.client).2 | 5 => 0 | _ => newV s r
def exS (s : Srv) (r : Req) : Srv := ⟨accSet s.acc r.key (newV s r), cliSet s.cli r (newV s r), s.jr ++ entB r, s.cnt + 1⟩
def doS (s : Srv) (r : Req) : Srv := if doK s r = 6 then exS s r else s
structure SrvOk (s : Srv) : Prop where
  nd : (s.acc.map (·.1)).Nodup
  val : ∀ x ∈ s.acc, -1152921504606846976 ≤ x.2 ∧ x.2 ≤ 1152921504606846976
  seq : ∀ x ∈ s.cli, 0 ≤ x.1.seq ∧ x.1.seq ≤ s.cnt
  cnt : s.cnt ≤ 1000
  jr : s.jr.length ≤ s.cnt * 89
  nacc : s.acc.length ≤ s.cnt
  ncli : s.cli.length ≤ s.cnt
theorem srv0_ok : SrvOk srv0 := ⟨by simp [srv0], by simp [srv0], by simp [srv0], by decide, by decide, by decide, by decide⟩
theorem accO_mem {l : List (ByteArray × Int)} {k : ByteArray} {v : Int} (h : accO l k = some v) : ∃ x ∈ l, x.1 = k ∧ x.2 = v := by
  induction l with
  | nil => cases h
  | cons x l ih =>
    simp only [accO] at h
    split at h
    · rename_i hk; simp only [Option.some.injEq] at h; exact ⟨x, by simp, hk.symm, h⟩
    · obtain ⟨y, hy, h1⟩ := ih h; exact ⟨y, by simp [hy], h1⟩
theorem cliO_mem {l : List (Req × Int)} {n : Int} {x : Req × Int} (h : cliO l n = some x) : x ∈ l ∧ x.1.client = n := by
  induction l with
  | nil => cases h
  | cons y l ih =>
    simp only [cliO] at h
    split at h
    · rename_i hk; simp only [Option.some.injEq] at h; subst h; exact ⟨by simp, hk.symm⟩
    · obtain ⟨h1, h2⟩ := ih h; exact ⟨by simp [h1], h2⟩
theorem SrvOk.accV {s : Srv} (h : SrvOk s) (k : ByteArray) : -1152921504606846976 ≤ accV s.acc k ∧ accV s.acc k ≤ 1152921504606846976 := by
  unfold Gd.accV
  cases ho : accO s.acc k with
  | none => simp
  | some v => obtain ⟨x, hx, _, rfl⟩ := accO_mem ho; exact h.val x hx
theorem SrvOk.last {s : Srv} (h : SrvOk s) (n : Int) : 0 ≤ (lastS s n).1.seq ∧ (lastS s n).1.seq ≤ s.cnt := by
  unfold lastS
  cases ho : cliO s.cli n with
  | none => simp [req0]
  | some x => exact h.seq x (cliO_mem ho).1
theorem accSet_keys (l : List (ByteArray × Int)) (k : ByteArray) (v : Int) : (accSet l k v).map (·.1) = if (accO l k).isSome then l.map (·.1) else l.map (·.1) ++ [k] := by
  induction l with
  | nil => simp [accSet, accO]
  | cons x l ih =>
    simp only [accSet, accO]
    split
    · rename_i h; subst h; simp
    · simp only [List.map_cons, ih]; split <;> rfl
theorem accO_none {l : List (ByteArray × Int)} {k : ByteArray} (h : accO l k = none) : k ∉ l.map (·.1) := by
  induction l with
  | nil => simp
  | cons x l ih =>
    simp only [accO] at h
    split at h
    · cases h
    · rename_i hk
      simp only [List.map_cons, List.mem_cons, not_or]
      exact ⟨hk, ih h⟩
theorem accSet_mem {l : List (ByteArray × Int)} {k : ByteArray} {v : Int} {x : ByteArray × Int} (h : x ∈ accSet l k v) : x = (k, v) ∨ x ∈ l := by
  induction l with
  | nil => simp [accSet] at h; exact .inl h
  | cons y l ih =>
    simp only [accSet] at h
    split at h
    · simp only [List.mem_cons] at h ⊢; rcases h with h | h
      · exact .inl h
      · exact .inr (.inr h)
    · simp only [List.mem_cons] at h ⊢; rcases h with h | h
      · exact .inr (.inl h)
      · rcases ih h with h | h
        · exact .inl h
        · exact .inr (.inr h)
theorem cliSet_mem {l : List (Req × Int)} {r : Req} {v : Int} {x : Req × Int} (h : x ∈ cliSet l r v) : x = (r, v) ∨ x ∈ l := by
  induction l with
  | nil => simp [cliSet] at h; exact .inl h
  | cons y l ih =>
    simp only [cliSet] at h
    split at h
    · simp only [List.mem_cons] at h ⊢; rcases h with h | h
      · exact .inl h
      · exact .inr (.inr h)
    · simp only [List.mem_cons] at h ⊢; rcases h with h | h
      · exact .inr (.inl h)
      · rcases ih h with h | h
        · exact .inl h
        · exact .inr (.inr h)
theorem accSet_len (l : List (ByteArray × Int)) (k : ByteArray) (v : Int) : (accSet l k v).length = if (accO l k).isSome then l.length else l.length + 1 := by
  induction l with
  | nil => simp [accSet, accO]
  | cons x l ih =>
    simp only [accSet, accO]
    split
    · simp
    · simp only [List.length_cons, ih]; split <;> rfl
theorem cliSet_len (l : List (Req × Int)) (r : Req) (v : Int) : (cliSet l r v).length = if (cliO l r.client).isSome then l.length else l.length + 1 := by
  induction l with
  | nil => simp [cliSet, cliO]
  | cons x l ih =>
    simp only [cliSet, cliO]
    split
    · simp
    · simp only [List.length_cons, ih]; split <;> rfl
theorem doK_6 {s : Srv} {r : Req} (h : doK s r = 6) : ¬ rangeBad r ∧ namedE r.key = 0 ∧ r.seq = (lastS s r.client).1.seq + 1 ∧ ¬ valBad s r := by
  unfold doK at h
  split at h; · cases h
  split at h; · cases h
  split at h; · cases h
  split at h; · cases h
  split at h; · cases h
  split at h; · cases h
  rename_i h1 h2 h3 h4 h5 h6
  refine ⟨h1, by simpa using h2, ?_, h6⟩
  by_cases h7 : r.seq - 1 = (lastS s r.client).1.seq
  · omega
  · exact absurd ⟨h5, h7⟩ h3
theorem key_len {k : ByteArray} (h : namedE k = 0) : k.size ≤ 64 := by
  unfold namedE at h
  split at h; · cases h
  split at h; · cases h
  omega
theorem doS_ok {s : Srv} (h : SrvOk s) (r : Req) : SrvOk (doS s r) := by
  by_cases hk : doK s r = 6
  case neg => unfold doS; rw [if_neg hk]; exact h
  unfold doS; rw [if_pos hk]
  obtain ⟨h1, h2, h3, h4⟩ := doK_6 hk
  have h5 := key_len h2
  have h6 := h.last r.client
  simp only [valBad] at h4
  have hc : s.cnt + 1 ≤ 1000 := by omega
  refine ⟨?_, ?_, ?_, hc, ?_, ?_, ?_⟩
  · show ((accSet s.acc r.key (newV s r)).map (·.1)).Nodup
    rw [accSet_keys]
    split
    · exact h.nd
    · rename_i hn; exact List.nodup_append.2 ⟨h.nd, by simp, by intro x hx y hy e; simp at hy; subst hy; subst e; exact accO_none (by simpa using hn) hx⟩
  · intro x hx
    rcases accSet_mem hx with rfl | hx
    · simp only []; omega
    · exact h.val x hx
  · intro x hx
    rcases cliSet_mem hx with rfl | hx
    · simp only [exS]; omega
    · have := h.seq x hx; simp only [exS]; omega
  · have := h.jr
    simp only [exS, List.length_append, entB_len]; omega
  · have := h.nacc; simp only [exS, accSet_len]; split <;> omega
  · have := h.ncli; simp only [exS, cliSet_len]; split <;> omega
end Go.Sx.Gd
