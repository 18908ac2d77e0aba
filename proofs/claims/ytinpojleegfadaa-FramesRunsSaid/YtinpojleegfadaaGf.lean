/- Plain laws on the pair of tables. -/
import Derived.Test.YtinpojleegfadaaE8
import Derived.Test.YtinpojleegfadaaE6
set_option linter.unusedVariables false
set_option linter.unusedSimpArgs false
namespace Go.Proofs.Ytinpojleegfadaa
open Go Go.Sx Go.Sx.Fr
theorem refsL_new {fs : List FrS} (h0 : ∀ n f, getF fs n = some f → f.refs = 0) : refsL fs = List.replicate 4096 0 := by
  rw [List.eq_replicate_iff]
  refine ⟨refsL_len fs, fun b hb => ?_⟩
  obtain ⟨n, _, rfl⟩ := List.mem_map.1 hb
  unfold rf
  cases h : getF fs (n : Int) with
  | none => rfl
  | some f => exact h0 _ _ h
theorem pagesL_new {fs : List FrS} (hd : NoData fs) : pagesL fs = List.replicate 4096 zPg := by
  rw [List.eq_replicate_iff]
  refine ⟨pagesL_len fs, fun b hb => ?_⟩
  obtain ⟨n, _, rfl⟩ := List.mem_map.1 hb
  have : pgN fs (n : Int) = zeroPg := by
    unfold pgN
    cases h : getF fs (n : Int) with
    | none => rfl
    | some f => simp only [pgOf, hd _ _ h]
  rw [this]; rfl
theorem refN_refI {R : RefS} {T : TabS} {fs : List FrS} {xs : List PoolS} (hT : T.pools = xs) (h0 : ∀ n f, getF fs n = some f → f.refs = 0) (hd : NoData fs) : refN R xs = refI R T fs := by
  unfold refN refI
  rw [refsL_new h0, pagesL_new hd, hT]
theorem pg_new {fs : List FrS} (hd : NoData fs) : PgOk fs := fun n f h d e => by rw [hd n f h] at e; cases e
theorem tabOk_ref {T : TabS} {fs : List FrS} (h : TabOk T fs) (n : Int) : TabOk T (refF fs n) := by
  unfold refF
  split
  · rename_i he
    refine h.upd n (fun f => { f with refs := f.refs + 1 }) (fun f => ⟨rfl, rfl⟩) (fun f hf => ?_)
    have h1 := h.refs n f hf
    have h2 : ¬ f.refs ≥ 60000 := fun e => by
      unfold refE at he
      split at he
      · rename_i h3; exact h3 he
      · rw [hf] at he; simp only [] at he; rw [if_pos e] at he; cases he
    simp only []; omega
  · exact h
theorem pg_ref {fs : List FrS} (h : PgOk fs) (n : Int) : PgOk (refF fs n) := by
  unfold refF
  split
  · exact h.upd n _ (fun _ => rfl) (fun f hf d hd => h n f hf d hd)
  · exact h
theorem pg_unref {fs : List FrS} (h : PgOk fs) (n : Int) : PgOk (unrefF fs n) := by
  unfold unrefF
  split
  · exact h.upd n _ (fun _ => rfl) (fun f hf d hd => h n f hf d hd)
  · exact h
theorem tabOk_write {T : TabS} {fs : List FrS} (h : TabOk T fs) (b : Nat) (n off : Int) (data : List UInt8) : TabOk T (writeF b fs n off data) := by
  unfold writeF
  split
  · exact h.upd n _ (fun f => ⟨rfl, rfl⟩) (fun f hf => h.refs n f hf)
  · exact h
theorem pg_write {fs : List FrS} (h : PgOk fs) (b : Nat) (n off : Int) (data : List UInt8) : PgOk (writeF b fs n off data) := by
  unfold writeF
  split
  · rename_i he
    refine h.upd n _ (fun _ => rfl) (fun f hf d hd => ?_)
    have hw : withinP off (data.length : Int) := by
      unfold readE at he
      split at he
      · rename_i h3; exact absurd he h3
      · split at he
        · assumption
        · cases he
    unfold withinP at hw
    have e : d.2 = wr (pgOf f) off.toNat data := by
      have := Option.some.inj hd; rw [← this]
    rw [e, wr_len (by rw [pgOf_len h hf]; omega), pgOf_len h hf]
  · exact h
theorem tabOk_copy {T : TabS} {fs : List FrS} (h : TabOk T fs) (b : Nat) (m n : Int) : TabOk T (copyF b fs m n) := by
  unfold copyF
  split
  · exact h.upd n _ (fun f => ⟨rfl, rfl⟩) (fun f hf => h.refs n f hf)
  · exact h
theorem pgN_len {fs : List FrS} (h : PgOk fs) (n : Int) : (pgN fs n).length = 64 := by
  unfold pgN
  cases hg : getF fs n with
  | none => rfl
  | some f => exact pgOf_len h hg
theorem pg_copy {fs : List FrS} (h : PgOk fs) (b : Nat) (m n : Int) : PgOk (copyF b fs m n) := by
  unfold copyF
  split
  · refine h.upd n _ (fun _ => rfl) (fun f hf d hd => ?_)
    have := Option.some.inj hd; rw [← this]; exact pgN_len h m
  · exact h
end Go.Proofs.Ytinpojleegfadaa
