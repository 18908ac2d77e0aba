/- The calls of the law as a Lean structure, and the bound on their size. -/
import Derived.Test.YtinpojleegfadaaFs
set_option linter.unusedVariables false
set_option linter.unusedSimpArgs false
namespace Go.Sx.Fr
open Go
/-- A call of a method. -/
structure ActS where
  do_ : Int
  pa : Option Addr
  pcap : Nat
  pools : List ByteArray
  a : Int
  b : Int
  n : Int
  contig : Bool
  top : Bool
  da : Option Addr
  dcap : Nat
  data : List UInt8
def encAct (x : ActS) : List Value := [.int .u8 x.do_, .slice x.pa x.pools.length x.pcap, .int .i64 x.a, .int .i64 x.b, .int .i64 x.n, .bool x.contig, .bool x.top, .slice x.da x.data.length x.dcap]
def encByte (b : UInt8) : List Value := [Extern.Stop.cell b]
theorem one_encByte {x : UInt8} {u : Value} (h : u ∈ encByte x) : oneC u = true := by simp only [encByte, List.mem_singleton] at h; subst h; rfl
def ActsB (W : World) (l : List ActS) : Prop := ∀ x ∈ l, BS W encStr x.pa x.pools ∧ BS W encByte x.da x.data ∧ x.pools.length ≤ 9223372036854775807 ∧ x.data.length ≤ 9223372036854775807
def nameOk (s : ByteArray) : Bool := decide (s.size ≤ 200)
def actOk (x : ActS) : Bool := decide (x.pools.length ≤ 20) && decide (x.data.length ≤ 200) && x.pools.all nameOk
def smallB (l : List ActS) : Bool := l.all actOk && decide (l.length ≤ 60)
theorem all_step {α : Type} {q : α → Bool} {l : List α} {i : Nat} {x : α} (h : ∀ y ∈ l.take i, q y = true) (hx : l[i]? = some x) (hq : q x = true) : ∀ y ∈ l.take (i + 1), q y = true := by
  intro y hy
  obtain ⟨hl, he⟩ := List.getElem?_eq_some_iff.1 hx
  rw [List.take_succ_eq_append_getElem hl] at hy
  rcases List.mem_append.1 hy with hy | hy
  · exact h y hy
  · simp only [List.mem_singleton] at hy; rw [hy, he]; exact hq
theorem all_no {α : Type} {q : α → Bool} {l : List α} {i : Nat} {x : α} (hx : l[i]? = some x) (hq : q x = false) : l.all q = false := by
  rw [List.all_eq_false]; exact ⟨x, List.mem_of_getElem? hx, by simp [hq]⟩
theorem all_yes {α : Type} {q : α → Bool} {l : List α} {i : Nat} (hi : l.length ≤ i) (h : ∀ y ∈ l.take i, q y = true) : l.all q = true := by
  rw [List.take_of_length_le hi] at h; exact List.all_eq_true.2 h
theorem actOk_no1 {x : ActS} (h : x.pools.length > 20 ∨ x.data.length > 200) : actOk x = false := by
  unfold actOk; rcases h with h | h
  · rw [decide_eq_false (by omega)]; rfl
  · rw [decide_eq_false (p := x.data.length ≤ 200) (by omega)]; simp
theorem actOk_no2 {x : ActS} (h : x.pools.all nameOk = false) : actOk x = false := by unfold actOk; rw [h]; simp
theorem actOk_yes {x : ActS} (h : ¬ (x.pools.length > 20 ∨ x.data.length > 200)) (h2 : x.pools.all nameOk = true) : actOk x = true := by
  unfold actOk; rw [h2, decide_eq_true (by omega), decide_eq_true (by omega)]; rfl
end Go.Sx.Fr
