/- The walks of Few and within. -/
import Derived.Test.YtinpojleegfadaaProg
import Derived.Test.YtinpojleegfadaaFr
set_option linter.unusedVariables false
set_option linter.unusedSimpArgs false
namespace Go.Proofs.Ytinpojleegfadaa
open Go.Sx Go.Sx.Fr
set_option maxRecDepth 100000

theorem few_step {xs : List PoolS} {i : Nat} {x : PoolS} (h : ∀ p ∈ xs.take i, p.name.size ≤ 200) (hx : xs[i]? = some x) (hs : x.name.size ≤ 200) : ∀ p ∈ xs.take (i + 1), p.name.size ≤ 200 := by
  intro p hp
  obtain ⟨hl, he⟩ := List.getElem?_eq_some_iff.1 hx
  rw [List.take_succ_eq_append_getElem hl] at hp
  rcases List.mem_append.1 hp with hp | hp
  · exact h p hp
  · simp only [List.mem_singleton] at hp; rw [hp, he]; exact hs
theorem few_no {xs : List PoolS} {i : Nat} {x : PoolS} (hx : xs[i]? = some x) (hs : 200 < x.name.size) : fewB xs = false := by
  simp only [fewB, Bool.and_eq_false_iff]
  left
  rw [List.all_eq_false]
  exact ⟨x, List.mem_of_getElem? hx, by simp; omega⟩
theorem few_yes {xs : List PoolS} {i : Nat} (hi : xs.length ≤ i) (h : ∀ p ∈ xs.take i, p.name.size ≤ 200) : fewB xs = decide (((xs.length : Nat) : Int) ≤ (20 : Int)) := by
  rw [List.take_of_length_le hi] at h
  have : xs.all (fun p => decide (p.name.size ≤ 200)) = true := by rw [List.all_eq_true]; intro p hp; simpa using h p hp
  simp only [fewB, this, Bool.true_and]
  rw [Bool.eq_iff_iff]; simp; omega
theorem c_within (W : World) (base : List Blk) (x y : Int) :
    CP Try.prog W base 51 #[.int .i64 x, .int .i64 y] [] (.bool (bif (bif (bif decide (x ≥ 0) then decide (y ≥ 0) else false) then decide (y ≤ (64 : Int)) else false) then decide (x ≤ IntKind.i64.wrap ((64) - y)) else false)) := by
  intro F
  refine ctIntro Try.func51 rfl rfl (by kernel_rfl) ?_
  refine sSeq (rRunS [] [(4, .bool false)] [] (by kernel_rfl) (sSeq (sReg (lRunS 3 [] [(7, .bool (decide (x ≥ (0 : Int)))), (6, .bool (decide (x ≥ (0 : Int)))), (5, .int .i64 x)] [] (by kernel_rfl) (lShort 3 [] 7 (decide (x ≥ (0 : Int))) 10 (decide (y ≥ (0 : Int))) false [(9, .bool (decide (y ≥ (0 : Int)))), (8, .int .i64 y)] [(9, undef), (8, undef)] [] [] (by kernel_rfl) (by kernel_rfl) (by kernel_rfl) (by kernel_rfl) ?_)))))
  refine lRunS 1 [] [(11, .bool (bif decide (x ≥ (0 : Int)) then decide (y ≥ (0 : Int)) else false))] [] (by kernel_rfl) (lShort 3 [] 11 (bif decide (x ≥ (0 : Int)) then decide (y ≥ (0 : Int)) else false) 14 (decide (y ≤ (64 : Int))) false [(13, .bool (decide (y ≤ (64 : Int)))), (12, .int .i64 y)] [(13, undef), (12, undef)] [] [] (by kernel_rfl) (by kernel_rfl) (by kernel_rfl) (by kernel_rfl) (lRunS 1 [] [(15, .bool (bif bif decide (x ≥ (0 : Int)) then decide (y ≥ (0 : Int)) else false then decide (y ≤ (64 : Int)) else false))] [] (by kernel_rfl) (lShort 5 [] 15 (bif bif decide (x ≥ (0 : Int)) then decide (y ≥ (0 : Int)) else false then decide (y ≤ (64 : Int)) else false) 20 (decide (x ≤ (IntKind.i64.wrap (64 - y)))) false [(19, .bool (decide (x ≤ (IntKind.i64.wrap (64 - y))))), (18, .int .i64 (IntKind.i64.wrap (64 - y))), (17, .int .i64 y), (16, .int .i64 x)] [(19, undef), (18, undef), (17, undef), (16, undef)] [] [] (by kernel_rfl) (by kernel_rfl) (by kernel_rfl) (by kernel_rfl) (lRunS 1 [] [(4, .bool (bif bif bif decide (x ≥ (0 : Int)) then decide (y ≥ (0 : Int)) else false then decide (y ≤ (64 : Int)) else false then decide (x ≤ (IntKind.i64.wrap (64 - y))) else false))] [] (by kernel_rfl) (lEnd ?_)))))
  refine sRet ?_
  exact wRet () (0, 0) [] (.bool (bif bif bif decide (x ≥ (0 : Int)) then decide (y ≥ (0 : Int)) else false then decide (y ≤ (64 : Int)) else false then decide (x ≤ (IntKind.i64.wrap (64 - y))) else false)) [.tmp 4] rfl (by kernel_rfl) rfl trivial (fun _ h => h)

theorem c_Few (W : World) (base : List Blk) (a : Option Addr) (c : Nat) (xs : List PoolS) (hB : BS W encPool a xs) (hn : xs.length ≤ 9223372036854775807) :
    CP Try.prog W base 5 #[.slice a xs.length c] [] (.bool (fewB xs)) := by
  intro F
  refine ctIntro Try.func5 rfl rfl (by kernel_rfl) ?_
  refine sSeq (rRunS [] [(2, .bool false)] [] (by kernel_rfl) (sSeq (sSeq (rRunS [] [(7, .int .i64 0), (6, .int .i64 (xs.length : Int)), (5, .slice a xs.length c)] [] (by kernel_rfl) (sBlock ?_)))))
  refine sLoop (fun (i : Nat) => [(7, .int .i64 (i : Int)), (6, .int .i64 (xs.length : Int)), (5, .slice a xs.length c), (0, .slice a xs.length c)]) (fun (i : Nat) => [F]) (fun (i : Nat) => i ≤ xs.length ∧ ∀ p ∈ xs.take i, p.name.size ≤ 200) (fun (i : Nat) => xs.length - i) 0 ⟨by omega, by simp⟩ (by kernel_rfl) rfl ?_
  rintro i ⟨hi, hI⟩
  refine sSeq (rRunS [] [(8, .bool (decide ((i : Int) < (xs.length : Int))))] [] (by kernel_rfl) (sSeq ?_))
  refine sIfP (bpD ((i : Int) < (xs.length : Int))) (by kernel_rfl) (fun h1 => ?_) (fun h1 => ?_)
  · obtain ⟨b1, ob1, rfl, hcb1⟩ := hB.some (by omega)
    refine sSkip (sSeq (sBlock (sSeq (sReg (lR (u := .pointer (some ⟨b1, ob1 + i * 5, none⟩)) (runIndex (T := 22) (E := 47) (n := xs.length) (c := c) (b := b1) (o := ob1) (k := 5) (ik := .i64) i (by kernel_rfl) (by kernel_rfl) (by omega)) (by kernel_rfl) (by kernel_rfl) (by kernel_rfl) ?_)))))
    obtain ⟨x2, hx2⟩ : ∃ x, xs[i]? = some x := ⟨_, List.getElem?_eq_getElem (by (try simp only [List.length_set, List.length_append, List.length_replicate]); omega)⟩
    refine lR (u := .agg #[.string x2.name, .int .i64 x2.first, .int .i64 x2.count, .bool x2.general, .bool x2.keep]) (runLoadBS (f := encPool) (T := 47) (k := 5) (fun _ => rfl) hcb1 hx2 (by kernel_rfl) (by kernel_rfl)) (by kernel_rfl) (by kernel_rfl) (by kernel_rfl) ?_
    refine lRunN 2 [(1, 2, 0)] (fun b3 => [(4, .pointer (some ⟨b3, 0, none⟩))]) (fun b3 => []) (fun b3 => .cells #[.string x2.name, .int .i64 x2.first, .int .i64 x2.count, .bool x2.general, .bool x2.keep] 47) (fun b3 => [b3, b3, b3, b3, b3]) (fun b3 => by kernel_rfl) (fun b3 => ?_)
    refine lEnd (sSeq (rRunS [(1, 2, 0)] [(14, .bool (decide ((x2.name.size : Int) > (200 : Int)))), (13, .int .i64 (x2.name.size : Int)), (12, .string x2.name), (11, .pointer (some ⟨b3, 0, none⟩))] [b3] (by kernel_rfl) ?_))
    refine sIfP (bpD ((x2.name.size : Int) > (200 : Int))) (by kernel_rfl) (fun h2 => ?_) (fun h2 => ?_)
    · refine sSeq (rRunS [] [(2, .bool false)] [] (by kernel_rfl) (sRet ?_))
      exact wRet () (0, 0) [] (.bool false) [.tmp 2] rfl (by kernel_rfl) (congrArg Value.bool (few_no hx2 (by omega)).symm) trivial (fun _ h => h.pick [0] (by kernel_rfl) (by kernel_rfl))
    · refine sSkip (sEnd (sReg (lRunS 1 [] [(15, .int .i64 (IntKind.i64.wrap ((i : Int) + 1)))] [] (by kernel_rfl) (lOv 15 (iw (x := (i : Int) + 1) (by omega)) (by kernel_rfl) (lRunS 1 [] [(7, .int .i64 ((i : Int) + 1))] [] (by kernel_rfl) ?_)))))
      refine lEnd ?_
      exact sPick [0] (by kernel_rfl) (by kernel_rfl) (sAgain (i + 1) ⟨by omega, few_step hI hx2 (by omega)⟩ (by first | omega | (simp only []; omega)) (by kernel_rfl) rfl)
  · refine sExit (by kernel_rfl) (sSeq (rRunS [] [(2, .bool (decide ((xs.length : Int) ≤ (20 : Int)))), (18, .bool (decide ((xs.length : Int) ≤ (20 : Int)))), (17, .int .i64 (xs.length : Int)), (16, .slice a xs.length c)] [] (by kernel_rfl) (sRet ?_)))
    exact wRet () (0, 0) [] (.bool (decide ((xs.length : Int) ≤ (20 : Int)))) [.tmp 2] rfl (by kernel_rfl) (congrArg Value.bool (few_yes (i := i) (by omega) hI).symm) trivial (fun _ h => h)

end Go.Proofs.Ytinpojleegfadaa
