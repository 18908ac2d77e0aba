/- The pages as one list of bytes. -/
import Derived.Test.YtinpojleegfadaaE3
set_option linter.unusedVariables false
set_option linter.unusedSimpArgs false
namespace Go.Proofs.Ytinpojleegfadaa
open Go Go.Sx Go.Sx.Fr
/-! ### The pages as one list of bytes -/
def flatP (ys : List Pg) : List UInt8 := ys.flatMap Pg.l
theorem flatP_len : ∀ ys : List Pg, (flatP ys).length = ys.length * 64
  | [] => rfl
  | p :: l => by
    show (p.l ++ flatP l).length = _
    rw [List.length_append, flatP_len l, p.h, List.length_cons]; omega
theorem arrPg : ∀ ys : List Pg, arr encPg ys [] = ((flatP ys).map Extern.Stop.cell).toArray := by
  intro ys
  unfold arr flatP
  rw [List.append_nil, List.map_flatMap]; rfl
theorem arrBt (l : List UInt8) : (l.map Extern.Stop.cell).toArray = arr encByte l [] := by
  unfold arr
  rw [List.append_nil, flatMap_one (f := encByte) (g := Extern.Stop.cell) (fun _ => rfl)]
theorem flatP_split {ys : List Pg} {n : Nat} {p : Pg} (h : ys[n]? = some p) : flatP ys = flatP (ys.take n) ++ (p.l ++ flatP (ys.drop (n + 1))) ∧ (flatP (ys.take n)).length = n * 64 := by
  have hl := (List.getElem?_eq_some_iff.1 h).1
  refine ⟨?_, by rw [flatP_len, List.length_take]; congr 1; omega⟩
  conv => lhs; rw [← List.take_append_drop n ys, drop_of h]
  simp [flatP]
theorem flatP_take {ys : List Pg} {n : Nat} {p : Pg} (h : ys[n]? = some p) {o m : Nat} (hm : o + m ≤ 64) : ((flatP ys).drop (n * 64 + o)).take m = (p.l.drop o).take m := by
  obtain ⟨h1, h2⟩ := flatP_split h
  have hp := p.h
  rw [h1, List.drop_append, List.drop_of_length_le (by omega), List.nil_append, h2, show n * 64 + o - n * 64 = o by omega, List.drop_append, List.take_append_of_le_length (by rw [List.length_drop]; omega)]
theorem flatP_wr {ys : List Pg} {n : Nat} {p : Pg} (h : ys[n]? = some p) {o : Nat} {d : List UInt8} (hd : o + d.length ≤ 64) : wr (flatP ys) (n * 64 + o) d = flatP (ys.set n ⟨wr p.l o d, (wr_len (by rw [p.h]; exact hd)).trans p.h⟩) := by
  obtain ⟨h1, h2⟩ := flatP_split h
  have hl := (List.getElem?_eq_some_iff.1 h).1
  have hp := p.h
  have e : flatP (ys.set n ⟨wr p.l o d, (wr_len (by rw [p.h]; exact hd)).trans p.h⟩) = flatP (ys.take n) ++ (wr p.l o d ++ flatP (ys.drop (n + 1))) := by
    rw [List.set_eq_take_append_cons_drop, if_pos hl]; simp [flatP]
  rw [e, h1]
  unfold wr
  rw [List.take_append, List.take_of_length_le (by omega), h2, show n * 64 + o - n * 64 = o by omega, List.take_append_of_le_length (by omega), List.drop_append, List.drop_of_length_le (by omega), h2, List.nil_append,
    show n * 64 + o + d.length - n * 64 = o + d.length by omega, List.drop_append, show o + d.length - p.l.length = 0 by omega, List.drop_zero]
  simp [List.append_assoc]
theorem wr_set {L d : List UInt8} {o i : Nat} {x : UInt8} (h : o + d.length ≤ L.length) (hx : d[i]? = some x) : (wr L o (d.take i)).set (o + i) x = wr L o (d.take (i + 1)) := by
  obtain ⟨hl, he⟩ := List.getElem?_eq_some_iff.1 hx
  have h1 : (L.take o).length = o := by rw [List.length_take]; omega
  have h2 : (d.take i).length = i := by rw [List.length_take]; omega
  have h3 : (d.take (i + 1)).length = i + 1 := by rw [List.length_take]; omega
  unfold wr
  rw [h2, h3, List.append_assoc, List.set_append_right _ _ (by omega), h1, show o + i - o = i by omega, List.set_append_right _ _ (by omega), h2, Nat.sub_self, List.take_succ_eq_append_getElem hl, he]
  have h4 : L.drop (o + i) = L[o + i]'(by omega) :: L.drop (o + i + 1) := by rw [List.drop_eq_getElem_cons]
  rw [h4, List.set_cons_zero]
  simp [List.append_assoc, Nat.add_assoc]
theorem read_bad {fs : List FrS} {n off k : Int} (hz : findE fs n false = 0) (h : ¬ withinP off k) : readE fs n off k = 14 := by unfold readE; rw [if_neg (by simpa using hz), if_neg h]
theorem read_ok {fs : List FrS} {n off k : Int} (hz : findE fs n false = 0) (h : withinP off k) : readE fs n off k = 0 := by unfold readE; rw [if_neg (by simpa using hz), if_pos h]
end Go.Proofs.Ytinpojleegfadaa
