/- Bytes at a known place, numbers read from bytes, and plain laws on them. -/
import Derived.Test.YtljfjiaiachbfaaDoorM2
set_option linter.unusedVariables false
set_option linter.unusedSimpArgs false
namespace Go.Sx.Gd
open Go Go.Sx
/-! ### Bytes at a known place -/
def Src (W : World) (D : List Blk) (b o : Nat) (xs : List UInt8) : Prop := ∀ w, SatI W w [D] → ∀ j x, xs[j]? = some x → w.cell? ⟨b, o + j, none⟩ = some (Extern.Stop.cell x)
theorem SatI.one {W w : World} {its : Items} (h : SatI W w its) {i : Nat} {D : List Blk} (hi : its[i]? = some D) : SatI W w [D] := by
  unfold SatI at *
  have e : its.flatten = (its.take i).flatten ++ D ++ (its.drop (i + 1)).flatten := by
    have hlt := (List.getElem?_eq_some_iff.1 hi).1
    have h2 := (List.getElem?_eq_some_iff.1 hi).2
    have : its = its.take i ++ D :: its.drop (i + 1) := by rw [← h2]; simp
    conv => lhs; rw [this]
    simp
  refine Sat.weaken h (fun p hp => ?_) ?_
  · rw [e]; simp only [List.flatten_cons, List.flatten_nil, List.append_nil] at hp; simp [hp]
  · have hn := h.nd
    rw [e, List.append_assoc, List.map_append, List.map_append] at hn
    simpa using (List.nodup_append.1 (List.nodup_append.1 hn).2.1).1
theorem Src.sub {W : World} {D : List Blk} {b o : Nat} {xs : List UInt8} (h : Src W D b o xs) (k m : Nat) : Src W D b (o + k) ((xs.drop k).take m) := by
  intro w hw j x hx
  rw [List.getElem?_take] at hx
  split at hx
  · rw [List.getElem?_drop] at hx
    have := h w hw (k + j) x hx
    rwa [show o + (k + j) = o + k + j by omega] at this
  · cases hx
theorem Src.re {W : World} {D : List Blk} {b o o' : Nat} {xs xs' : List UInt8} (h : Src W D b o xs) (ho : o = o') (hx : xs = xs') : Src W D b o' xs' := by subst ho hx; exact h
theorem Src.ofB {W : World} {b o : Nat} {xs : List UInt8} (h : ∀ j u, (xs.flatMap encByte)[j]? = some u → W.cell? ⟨b, o + j, none⟩ = some u) : Src W [] b o xs := by
  intro w hw j x hx
  refine Sat.cellB hw (h j _ ?_)
  rw [flatMap_one (f := encByte) (g := Extern.Stop.cell) (fun _ => rfl), List.getElem?_map, hx]; rfl
theorem Src.ofD {W : World} {d : SD} {q : Nat} {xs : List UInt8} (hq : d.a = some ⟨q, 0, none⟩) : Src W (SD.blk 5 encByte d xs) q 0 xs := by
  intro w hw j x hx
  rw [sd_blk hq] at hw
  have hh : w.heap[q]? = some (.cells (arr encByte xs d.rest) 5 (0, 0)) := hw.has (q, .cells (arr encByte xs d.rest) 5) (by simp)
  refine cell_of hh ?_
  simp only [arr, List.getElem?_toArray, flatMap_one (g := Extern.Stop.cell) (f := encByte) (fun _ => rfl), Nat.zero_add]
  rw [List.getElem?_append_left (by rw [List.length_map]; exact (List.getElem?_eq_some_iff.1 hx).1), List.getElem?_map, hx]; rfl
section
variable {P : Program} {W : World} {base : List Blk} {its : Items}
theorem runLoadSrc {T b o p n : Nat} {D : List Blk} {xs : List UInt8} {x : UInt8} (h : Src W D b o xs) (i : Nat) (hi : its[i]? = some D) (hx : xs[n]? = some x) (hp : p = o + n)
    (hT : (P.underlying T).map (fun d => match d with | .struct _ | .array _ _ => true | _ => false) = some false) : RunR P W base its (do pure (Next.value (← Instr.loadAt T (.pointer (some ⟨b, p, none⟩))))) (.value (Extern.Stop.cell x)) := by
  intro hb w hs
  subst hp
  have hc := h w (SatI.one hs hi) n x hx
  obtain ⟨d, h1, h2⟩ := Option.map_eq_some_iff.1 hT
  simp only [Instr.loadAt, Instr.sureAddr, pure_bind, loadVar, isAgg, Sem.run_bind, run_underlying h1, Result.andThen_ok]
  cases d <;> simp_all [load, Sem.run]
theorem runSliceLH {T E n c k : Nat} {b o : Nat} {ik ik2 : IntKind} (l h : Nat) (hT : P.underlying T = some (.slice E)) (hE : (P.info? E).map (·.size) = some k) (hl : l ≤ h) (hh : h ≤ c) (hn : l < c) :
    RunR P W base its (do pure (Next.value (← Instr.sliceAt T (.slice (some ⟨b, o, none⟩) n c) (some (.int ik (l : Int))) (some (.int ik2 (h : Int))) none))) (.value (.slice (some ⟨b, o + l * k, none⟩) (h - l) (c - l))) := by
  intro _ w _
  obtain ⟨inf, h1, h2⟩ := Option.map_eq_some_iff.1 hE
  have hc : ¬ c = l := by omega
  have hadd : (⟨b, o, none⟩ : Addr).add (l * k) = ⟨b, o + l * k, none⟩ := by unfold Addr.add; split <;> simp_all
  simp [Instr.sliceAt, Instr.slice, Instr.sliceBounds, Instr.sliceBound, asIntOf, run_underlying hT, sizeOf, typeInfo, h1, h2, hl, hh, hc, hadd]
theorem runStrSrc {src dst e b o m c : Nat} {D : List Blk} {xs : List UInt8} (h : Src W D b o xs) (i : Nat) (hi : its[i]? = some D) (hm : xs.length = m) (hs0 : P.underlying src = some (.slice e)) (hd0 : P.underlying dst = some .string) (he : P.underlying e = some (.int .u8)) :
    RunR P W base its (do pure (Next.value (← convert src dst (.slice (some ⟨b, o, none⟩) m c)))) (.value (.string ⟨xs.toArray⟩)) := by
  intro hbase w hs
  subst hm
  have hcell := h w (SatI.one hs hi)
  have hload : (loadCells ⟨b, o, none⟩ xs.length).run P w = .ok ((xs.map fun b => (b.toNat : Int)).map (Value.int .u8)).toArray w := by
    have h1 := run_loadCellsB (P := P) (w := w) (b := b) (o := o) (xs.map Extern.Stop.cell) 0 #[] (fun t u ht => by
      rw [List.getElem?_map] at ht
      obtain ⟨x, hx, rfl⟩ := Option.map_eq_some_iff.1 ht
      simpa using hcell t x hx)
    have h2 : ((xs.map fun b => (b.toNat : Int)).map (Value.int .u8)) = xs.map Extern.Stop.cell := by rw [List.map_map]; rfl
    rw [h2]
    simpa [loadCells] using h1
  have h0 : (convert src dst (.slice (some ⟨b, o, none⟩) xs.length c)).run P w = .ok (.string ⟨xs.toArray⟩) w := by
    rw [run_convert_bytes_string w src dst e _ _ _ hs0 he hd0, run_bytesToString w _ _ _ _ hload, foldl_push]; simp
  rw [Sem.run_bind, h0]; rfl
theorem srcSrc {b o : Nat} {D : List Blk} {xs : List UInt8} (h : Src W D b o xs) (i : Nat) (hi : its[i]? = some D) : BaseOk W base → ∀ w, SatI W w its → xs.length = 0 ∨ ∃ p, some (⟨b, o, none⟩ : Addr) = some p ∧ ∀ j u, (xs.flatMap encByte)[j]? = some u → w.cell? (p.add j) = some u := by
  intro _ w hs
  refine .inr ⟨⟨b, o, none⟩, rfl, fun j u hu => ?_⟩
  rw [flatMap_one (f := encByte) (g := Extern.Stop.cell) (fun _ => rfl), List.getElem?_map] at hu
  obtain ⟨x, hx, rfl⟩ := Option.map_eq_some_iff.1 hu
  have := h w (SatI.one hs hi) j x hx
  have hadd : (⟨b, o, none⟩ : Addr).add j = ⟨b, o + j, none⟩ := by unfold Addr.add; split <;> simp_all
  rw [hadd]; exact this
theorem runShl {T : TypeId} {o1 o2 : Operand} {k yk : IntKind} {x y : Int} (n : Nat) (hy : y = (n : Int)) (hn : n ≤ k.bits) :
    RunR P W base its (do pure (Next.value (← (do eqGuard .shl T o1 o2 (.int k x) (.int yk y); binOp .shl T (.int k x) (.int yk y))))) (.value (.int k (k.wrap (x * 2 ^ n)))) := by
  intro _ w _
  subst hy
  have h0 : ¬ ((n : Int) < 0) := by omega
  simp only [eqGuard, binOp, Op.shift, Sem.run_bind]
  simp [h0, Nat.min_eq_left hn]
end
/-! ### Numbers of bytes -/
def valN : List UInt8 → Nat
  | [] => 0
  | x :: l => x.toNat + 256 * valN l
theorem valN_lt (l : List UInt8) : valN l < 256 ^ l.length := by
  induction l with
  | nil => decide
  | cons x l ih =>
    have := x.toNat_lt
    simp only [valN, List.length_cons, Nat.pow_succ]
    omega
theorem valN_snoc (l : List UInt8) (x : UInt8) : valN (l ++ [x]) = valN l + 256 ^ l.length * x.toNat := by
  induction l with
  | nil => simp [valN]
  | cons y l ih =>
    simp only [List.cons_append, valN, ih, List.length_cons, Nat.pow_succ]
    rw [Nat.mul_add, Nat.mul_comm (256 ^ l.length) 256, Nat.mul_assoc]; omega
theorem valN_take {xs : List UInt8} {i : Nat} {x : UInt8} (h : xs[i]? = some x) : valN (xs.take (i + 1)) = valN (xs.take i) + 256 ^ i * x.toNat := by
  rw [List.take_add_one, h]
  simp only [Option.toList_some]
  rw [valN_snoc, List.length_take, Nat.min_eq_left (by have := (List.getElem?_eq_some_iff.1 h).1; omega)]
theorem pow256_le {a b : Nat} (h : a ≤ b) : 256 ^ a ≤ 256 ^ b := Nat.pow_le_pow_right (by decide) h
theorem valStep {a i : Nat} {x : UInt8} (ha : a < 256 ^ i) (hi : i ≤ 7) :
    IntKind.u64.wrap (((BitVec.ofInt IntKind.u64.bits (a : Int) ||| BitVec.ofInt IntKind.u64.bits (IntKind.u64.wrap (IntKind.u64.wrap ((x.toNat : Nat) : Int) * 2 ^ (8 * i)))).toNat : Nat) : Int) = ((a + 256 ^ i * x.toNat : Nat) : Int) := by
  have hx := x.toNat_lt
  have hp : (256 : Nat) ^ i = 2 ^ (8 * i) := by rw [Nat.pow_mul]
  have h1 : 256 ^ i * x.toNat < 18446744073709551616 := by
    have := pow256_le hi
    have h2 : 256 ^ i * x.toNat ≤ 256 ^ 7 * 255 := Nat.mul_le_mul this (by omega)
    have h3 : (256 : Nat) ^ 7 * 255 < 18446744073709551616 := by decide
    omega
  have h3 : a < 18446744073709551616 := by
    have := pow256_le (show i ≤ 8 by omega)
    have h4 : (256 : Nat) ^ 8 = 18446744073709551616 := by decide
    omega
  have e1 : IntKind.u64.wrap (IntKind.u64.wrap ((x.toNat : Nat) : Int) * 2 ^ (8 * i)) = ((256 ^ i * x.toNat : Nat) : Int) := by
    have e0 : (2 : Int) ^ (8 * i) = ((256 ^ i : Nat) : Int) := by rw [hp, Int.natCast_pow]; rfl
    rw [wrap_u64, wrap_u64, e0, Int.emod_eq_of_lt (a := ((x.toNat : Nat) : Int)) (by omega) (by omega)]
    rw [← Int.natCast_mul, Nat.mul_comm]
    exact Int.emod_eq_of_lt (by omega) (by omega)
  rw [e1]
  have e2 : (BitVec.ofInt IntKind.u64.bits ((a : Nat) : Int)).toNat = a := by
    rw [BitVec.ofInt_natCast, BitVec.toNat_ofNat]; exact Nat.mod_eq_of_lt h3
  have e3 : (BitVec.ofInt IntKind.u64.bits ((256 ^ i * x.toNat : Nat) : Int)).toNat = 256 ^ i * x.toNat := by
    rw [BitVec.ofInt_natCast, BitVec.toNat_ofNat]; exact Nat.mod_eq_of_lt h1
  rw [BitVec.toNat_or, e2, e3]
  have e4 : a ||| 256 ^ i * x.toNat = a + 256 ^ i * x.toNat := by
    rw [Nat.or_comm, hp, ← Nat.two_pow_add_eq_or_of_lt (by rw [← hp]; exact ha), Nat.add_comm]
  rw [e4, wrap_u64]
  have h5 : a + 256 ^ i * x.toNat < 18446744073709551616 := by
    have h6 : a + 256 ^ i * x.toNat < 256 ^ (i + 1) := by
      have : 256 ^ i * x.toNat ≤ 256 ^ i * 255 := Nat.mul_le_mul_left _ (by omega)
      rw [Nat.pow_succ]; omega
    have h7 := pow256_le (show i + 1 ≤ 8 by omega)
    have h4 : (256 : Nat) ^ 8 = 18446744073709551616 := by decide
    omega
  exact Int.emod_eq_of_lt (by omega) (by omega)
theorem readStep {a : Nat} {x : UInt8} (h : x.toNat + 256 * a < 18446744073709551616) : IntKind.u64.wrap (IntKind.u64.wrap ((a : Int) * 256) + IntKind.u64.wrap ((x.toNat : Nat) : Int)) = ((x.toNat + 256 * a : Nat) : Int) := by
  simp only [wrap_u64]; omega
theorem numB_valN (l : List UInt8) (n : Int) (h : (n % 18446744073709551616).toNat % 256 ^ l.length = valN l) : numB n l.length = l := by
  have key : ∀ (l : List UInt8) (m : Nat), m % 256 ^ l.length = valN l → (List.range l.length).map (fun i => UInt8.ofNat (m / 256 ^ i)) = l := by
    intro l
    induction l with
    | nil => intro m _; rfl
    | cons x l ih =>
      intro m hm
      simp only [List.length_cons, List.range_succ_eq_map, List.map_cons, List.map_map, Nat.pow_zero, Nat.div_one]
      have hx := x.toNat_lt
      simp only [valN, List.length_cons] at hm
      have h1 : m % 256 = x.toNat := by
        have : m % 256 ^ (l.length + 1) % 256 = m % 256 := Nat.mod_mod_of_dvd _ ⟨256 ^ l.length, by rw [Nat.pow_succ, Nat.mul_comm]⟩
        rw [← this, hm]; omega
      have h2 : m / 256 % 256 ^ l.length = valN l := by
        rw [← Nat.mod_mul_right_div_self, show 256 * 256 ^ l.length = 256 ^ (l.length + 1) by rw [Nat.pow_succ, Nat.mul_comm], hm]
        omega
      refine List.cons_eq_cons.2 ⟨?_, ?_⟩
      · apply UInt8.toNat_inj.1
        rw [UInt8.toNat_ofNat']; exact h1
      · have := ih (m / 256) h2
        rw [← this]
        simp only [List.length_map, List.length_range]
        refine List.map_congr_left (fun i _ => ?_)
        simp only [Function.comp_apply, Nat.succ_eq_add_one]
        rw [Nat.pow_succ, Nat.mul_comm, Nat.div_div_eq_div_mul]
  exact key l _ h
end Go.Sx.Gd
