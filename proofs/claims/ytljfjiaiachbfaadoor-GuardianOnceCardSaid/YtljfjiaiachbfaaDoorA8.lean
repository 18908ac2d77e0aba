/- From the reading of the arguments to the list of requests, and from the listed variable to its cells. -/
import Derived.Test.YtljfjiaiachbfaaDoorA7
import Derived.Test.YtljfjiaiachbfaaDoorSo
import Derived.Test.YtljfjiaiachbfaaDoorChecked
import Derived.Test.YtljfjiaiachbfaaDoorRows
import Derived.LaidMore
import Derived.OpenShut
import Derived.Stop.Joined
/-! From the reading of the arguments to the list of requests, and from the listed variable to its cells. -/
namespace Go.Proofs.YtljfjiaiachbfaaDoor
open Go.Sx Go.Sx.Gd Go.RowKit Go.ChangeShapes
set_option maxRecDepth 100000
set_option linter.unusedSimpArgs false
set_option linter.unusedVariables false
section
variable {H : Type} {enc : TypeId × Value → H} {w : World} {sp : Nat → Bool} {held : Bool}
theorem open_req (fuel : Nat) (cs : List Value) (y : DataW H × List MemPlace) (h : DataW.trod enc Tryd.prog w 0 sp held fuel 30 cs = some y) : ∃ x : Req, cs = encReq x ∧ x.seq ≤ 9223372036854775807 := by
  obtain ⟨xs, n, _, _, hl, hxl, hf⟩ := DataW.trod_struct Tryd.underlying30 h
  have hlen : cs.length = 4 := hl.trans (by kernel_rfl)
  have hx5 : xs.length = 4 := hxl
  have fld : ∀ (i : Nat) (fl : Field), (#[⟨"Client", 3, 0, false, "", "", 0⟩, ⟨"Seq", 2, 1, false, "", "", 8⟩, ⟨"Key", 9, 2, false, "", "", 16⟩, ⟨"Amount", 2, 3, false, "", "", 32⟩] : Array Field)[i]? = some fl → i < 4 →
      ∃ z, DataW.trod enc Tryd.prog w 0 sp held n fl.type ((cs.drop fl.offset).take (Tryd.prog.cellsOf fl.type)) = some z := by
    intro i fl h1 h2
    rw [hf i fl h1, List.getElem?_eq_getElem (by omega)]; exact ⟨_, rfl⟩
  obtain ⟨_, h0⟩ := fld 0 _ rfl (by omega)
  obtain ⟨_, h1⟩ := fld 1 _ rfl (by omega)
  obtain ⟨_, h2⟩ := fld 2 _ rfl (by omega)
  obtain ⟨_, h3⟩ := fld 3 _ rfl (by omega)
  obtain ⟨n0, e0, _, _⟩ := DataW.trod_int Tryd.underlying3 h0
  obtain ⟨n1, e1, _, w1⟩ := DataW.trod_int Tryd.underlying2 h1
  obtain ⟨s, e2, _, _⟩ := DataW.trod_string Tryd.underlying9 h2
  obtain ⟨n3, e3, _, _⟩ := DataW.trod_int Tryd.underlying2 h3
  rw [show Tryd.prog.cellsOf _ = 1 from by kernel_rfl] at e0 e1 e2 e3
  have hw : n1 ≤ 9223372036854775807 := by
    simp only [Lit.wf, Bool.and_eq_true, decide_eq_true_eq] at w1
    exact w1.2
  refine ⟨⟨n0, n1, s, n3⟩, ?_, hw⟩
  apply List.ext_getElem?
  intro i
  match i with
  | 0 => exact cut1 e0
  | 1 => exact cut1 e1
  | 2 => exact cut1 e2
  | 3 => exact cut1 e3
  | i + 4 => rw [List.getElem?_eq_none (by omega), List.getElem?_eq_none (by simp [encReq])]
end
theorem Tryd.own : ownKnob Tryd.prog.godebug = none := by kernel_rfl
theorem Tryd.laidOut : laidOutB Tryd.prog = true := by kernel_rfl
abbrev laid1 : List (String × DataW Unit) := [("orpiment/guardian.fields", Rows.laid_orpiment_guardian_fields)]
theorem gFields : Tryd.prog.globalNamed "orpiment/guardian.fields" = some 0 := by kernel_rfl
theorem tFields : (Tryd.prog.globals[0]?).map (·.type) = some 137 := by kernel_rfl
theorem door_met (os : Os) (args : Array Value) : laidMetH Tryd.prog laid1 ((World.doorLaid Tryd.prog 600 os).forCall (fun _ _ => 0) ⟨#[], args, []⟩).memory :=
  laidMetH_of_parts3 (fuel := 8) (laidMet_of_run' 8 (by kernel_rfl) (by kernel_rfl)) (by kernel_rfl) (by kernel_rfl)
theorem of_laid {W : World} (h : laidMetH Tryd.prog laid1 W) : ∃ gT gF, BaseOk W (gB gT gF) := by
  obtain ⟨g, t, cs, fuel, p, hg, ht, hv, hd⟩ := h.funcs (List.mem_singleton.2 rfl)
  obtain rfl := Option.some.inj (gFields.symm.trans hg)
  obtain rfl := Option.some.inj (tFields.symm.trans ht)
  obtain ⟨xs, m, rfl, hx1, hlen, hn5, hel⟩ := DataW.trod_array Tryd.underlying137 hd
  have c1 : Tryd.prog.cellsOf 136 = 1 := by kernel_rfl
  have c5 : Tryd.prog.cellsOf 137 = 5 := by kernel_rfl
  rw [c5] at hlen
  have hx2 : xs.map (·.1) = [.held [40, 111, 114, 112, 105, 109, 101, 110, 116, 47, 103, 117, 97, 114, 100, 105, 97, 110, 46, 65, 99, 116, 105, 111, 110, 41, 46, 98, 97, 114, 101], .held [40, 111, 114, 112, 105, 109, 101, 110, 116, 47, 103, 117, 97, 114, 100, 105, 97, 110, 46, 65, 99, 116, 105, 111, 110, 41, 46, 119, 97, 105, 116, 105, 110, 103], .held [40, 111, 114, 112, 105, 109, 101, 110, 116, 47, 103, 117, 97, 114, 100, 105, 97, 110, 46, 65, 99, 116, 105, 111, 110, 41, 46, 110, 111, 116, 105, 102, 121, 105, 110, 103], .held [40, 111, 114, 112, 105, 109, 101, 110, 116, 47, 103, 117, 97, 114, 100, 105, 97, 110, 46, 65, 99, 116, 105, 111, 110, 41, 46, 116, 114, 105, 103, 103, 101, 114, 105, 110, 103], .held [40, 111, 114, 112, 105, 109, 101, 110, 116, 47, 103, 117, 97, 114, 100, 105, 97, 110, 46, 65, 99, 116, 105, 111, 110, 41, 46, 98, 97, 114, 101]] := by
    have := (Prod.mk.inj hx1).1
    exact (DataW.agg.inj this).symm
  obtain ⟨l⟩ := cs
  match l, hlen with
  | [a, b, c, d, e], _ =>
    match xs, hx2 with
    | [x0, x1, x2, x3, x4], hx2 =>
      simp only [List.map_cons, List.map_nil, List.cons.injEq, and_true] at hx2
      obtain ⟨y0, y1, y2, y3, y4⟩ := hx2
      have f0 := hel 0 (by decide)
      have f1 := hel 1 (by decide)
      have f2 := hel 2 (by decide)
      have f3 := hel 3 (by decide)
      have f4 := hel 4 (by decide)
      rw [c1] at f0 f1 f2 f3 f4
      have g0 : DataW.trod (funcToken Tryd.prog) Tryd.prog W 0 (fun _ => true) true m 136 [a] = some (x0.1, x0.2) := f0
      have g1 : DataW.trod (funcToken Tryd.prog) Tryd.prog W 0 (fun _ => true) true m 136 [b] = some (x1.1, x1.2) := f1
      have g2 : DataW.trod (funcToken Tryd.prog) Tryd.prog W 0 (fun _ => true) true m 136 [c] = some (x2.1, x2.2) := f2
      have g3 : DataW.trod (funcToken Tryd.prog) Tryd.prog W 0 (fun _ => true) true m 136 [d] = some (x3.1, x3.2) := f3
      have g4 : DataW.trod (funcToken Tryd.prog) Tryd.prog W 0 (fun _ => true) true m 136 [e] = some (x4.1, x4.2) := f4
      rw [y0] at g0; rw [y1] at g1; rw [y2] at g2; rw [y3] at g3; rw [y4] at g4
      obtain rfl := func_of_trod (f0 := 85) Tryd.underlying136 (by kernel_rfl) g0
      obtain rfl := func_of_trod (f0 := 87) Tryd.underlying136 (by kernel_rfl) g1
      obtain rfl := func_of_trod (f0 := 88) Tryd.underlying136 (by kernel_rfl) g2
      obtain rfl := func_of_trod (f0 := 89) Tryd.underlying136 (by kernel_rfl) g3
      obtain rfl := func_of_trod (f0 := 85) Tryd.underlying136 (by kernel_rfl) g4
      unfold World.var? at hv
      rw [gFields] at hv
      simp only [Option.bind_some] at hv
      split at hv
      · rename_i cs0 gT gF hh
        simp only [Option.some.injEq] at hv
        subst hv
        refine ⟨gT, gF, fun p hp => ?_⟩
        simp only [gB, List.mem_singleton] at hp
        subst hp
        exact hh
      · cases hv
end Go.Proofs.YtljfjiaiachbfaaDoor
