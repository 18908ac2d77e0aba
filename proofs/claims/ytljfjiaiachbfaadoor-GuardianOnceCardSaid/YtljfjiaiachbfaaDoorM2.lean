/- How a server lies in memory, and plain laws on it. -/
import Derived.Test.YtljfjiaiachbfaaDoorM1
set_option linter.unusedVariables false
set_option linter.unusedSimpArgs false
namespace Go.Sx.Gd
open Go Go.Sx
abbrev sdn : SD := ⟨none, 0, []⟩
/-! ### How a server lies in memory -/
def alM : List (ByteArray × Int) → Nat → List (ByteArray × Value × Nat)
  | [], _ => []
  | x :: l, i => (x.1, .int .i64 x.2, i) :: alM l (i + 1)
def dnV (x : Req × Int) : Value := .agg #[.int .i64 x.1.client, .int .i64 x.1.seq, .string x.1.key, .int .i64 x.1.amount, .int .i64 x.2]
def clM : List (Req × Int) → Nat → List (Int × Value × Nat)
  | [], _ => []
  | x :: l, i => (x.1.client, dnV x, i) :: clM l (i + 1)
theorem alM_lk (l : List (ByteArray × Int)) (i : Nat) (k : ByteArray) : lkM (alM l i) k = (accO l k).map (Value.int .i64) := by
  induction l generalizing i with
  | nil => rfl
  | cons x l ih =>
    simp only [alM, lkM, accO]
    split
    · rfl
    · exact ih _
theorem clM_lk (l : List (Req × Int)) (i : Nat) (n : Int) : lkM (clM l i) n = (cliO l n).map dnV := by
  induction l generalizing i with
  | nil => rfl
  | cons x l ih =>
    simp only [clM, lkM, cliO]
    split
    · rfl
    · exact ih _
theorem alM_in (l : List (ByteArray × Int)) (i : Nat) (k : ByteArray) (v : Int) : inM (alM l i) k (.int .i64 v) (i + l.length) = alM (accSet l k v) i := by
  induction l generalizing i with
  | nil => simp [alM, inM, accSet]
  | cons x l ih =>
    simp only [alM, inM, accSet]
    split
    · rename_i h; subst h; rfl
    · have := ih (i + 1)
      rw [show i + 1 + l.length = i + (x :: l).length by simp only [List.length_cons]; omega] at this
      rw [this]; rfl
theorem clM_in (l : List (Req × Int)) (i : Nat) (r : Req) (v : Int) : inM (clM l i) r.client (dnV (r, v)) (i + l.length) = clM (cliSet l r v) i := by
  induction l generalizing i with
  | nil => simp [clM, inM, cliSet]
  | cons x l ih =>
    simp only [clM, inM, cliSet]
    split
    · rename_i h; simp only [clM]
    · have := ih (i + 1)
      rw [show i + 1 + l.length = i + (x :: l).length by simp only [List.length_cons]; omega] at this
      rw [this]; rfl
theorem alM_in0 (l : List (ByteArray × Int)) (k : ByteArray) (v : Int) : inM (alM l 0) k (.int .i64 v) l.length = alM (accSet l k v) 0 := by
  have := alM_in l 0 k v
  rwa [Nat.zero_add] at this
theorem clM_in0 (l : List (Req × Int)) (r : Req) (v : Int) : inM (clM l 0) r.client (dnV (r, v)) l.length = clM (cliSet l r v) 0 := by
  have := clM_in l 0 r v
  rwa [Nat.zero_add] at this
theorem alM_clk (l : List (ByteArray × Int)) (k : ByteArray) (v : Int) : (bif (lkM (alM l 0) k).isSome then l.length else l.length + 1) = (accSet l k v).length := by
  rw [alM_lk, accSet_len]; cases accO l k <;> rfl
theorem clM_clk (l : List (Req × Int)) (r : Req) (v : Int) : (bif (lkM (clM l 0) r.client).isSome then l.length else l.length + 1) = (cliSet l r v).length := by
  rw [clM_lk, cliSet_len]; cases cliO l r.client <;> rfl
theorem alM_val (l : List (ByteArray × Int)) (k : ByteArray) : (lkM (alM l 0) k).getD (.int .i64 0) = .int .i64 (accV l k) := by
  rw [alM_lk]; unfold accV; cases accO l k <;> rfl
theorem clM_val (s : Srv) (n : Int) : (lkM (clM s.cli 0) n).getD (.agg #[.int .i64 0, .int .i64 0, .string ⟨#[]⟩, .int .i64 0, .int .i64 0]) = dnV (lastS s n) := by
  rw [clM_lk]; unfold lastS; cases cliO s.cli n <;> rfl
/-! The reference's -/
def encAcc (x : ByteArray × Int) : List Value := [.string x.1, .int .i64 x.2]
theorem one_encAcc {x : ByteArray × Int} {u : Value} (h : u ∈ encAcc x) : oneC u = true := by
  simp only [encAcc, List.mem_cons, List.mem_nil_iff, or_false] at h
  rcases h with rfl | rfl <;> rfl
def encCli (x : Req × Int) : List Value := [.int .i64 x.1.client, .int .i64 x.1.seq, .string x.1.key, .int .i64 x.1.amount, .int .i64 x.2]
theorem one_encCli {x : Req × Int} {u : Value} (h : u ∈ encCli x) : oneC u = true := by
  simp only [encCli, List.mem_cons, List.mem_nil_iff, or_false] at h
  rcases h with rfl | rfl | rfl | rfl | rfl <;> rfl
def reqPs (a b : Req) : List (LV × LV) := [(.i .i64 a.client, .i .i64 b.client), (.i .i64 a.seq, .i .i64 b.seq), (.s a.key, .s b.key), (.i .i64 a.amount, .i .i64 b.amount)]
theorem req_eq (a b : Req) : ((reqPs a b).all fun p => p.1.eq p.2) = decide (a = b) := by
  have hk : (a.key.toList == b.key.toList) = decide (a.key = b.key) := by rw [Bool.eq_iff_iff, beq_iff_eq, decide_eq_true_iff]; exact ⟨ba_inj, fun h => by rw [h]⟩
  simp only [reqPs, List.all_cons, List.all_nil, LV.eq, Bool.and_true, hk]
  rw [Bool.eq_iff_iff]
  simp only [Bool.and_eq_true, beq_iff_eq, decide_eq_true_iff]
  cases a; cases b; simp
end Go.Sx.Gd
