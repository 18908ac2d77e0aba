/- StreamsPorts returns true whatever the calls are, never panics, and its argument reads afterwards as before; no other condition. -/
import Derived.Test.YtcobccdeocihbaaA4
import Derived.Test.YtcobccdeocihbaaSo
import Derived.Test.YtcobccdeocihbaaRows
import Derived.LaidMore
import Derived.OpenShut
/-! StreamsPorts: whatever the input, the call returns true, and the argument reads as before. -/
namespace Go.Proofs.Ytcobccdeocihbaa
open Go.Sx Go.RowKit Go.ChangeShapes Go.WideShapes Go.ChangeAt
set_option maxRecDepth 100000
set_option linter.unusedSimpArgs false
set_option linter.unusedVariables false
section
variable {H : Type} {enc : TypeId × Value → H} {w : World} {sp : Nat → Bool} {held : Bool}
theorem open_byte (fuel : Nat) (cs : List Value) (y : DataW H × List MemPlace) (h : DataW.trod enc Try.prog w 0 sp held fuel 5 cs = some y) : ∃ x : UInt8, cs = encByte x ∧ True := by
  obtain ⟨n, e, _, hw⟩ := DataW.trod_int Try.underlying5 h
  simp only [Lit.wf, Bool.and_eq_true, decide_eq_true_eq] at hw
  obtain ⟨hw0, hw1⟩ := hw
  have h0 : 0 ≤ n := hw0
  have h1 : n ≤ 255 := hw1
  refine ⟨UInt8.ofNat n.toNat, ?_, trivial⟩
  subst e
  have hn : (((UInt8.ofNat n.toNat).toNat : Nat) : Int) = n := by rw [UInt8.toNat_ofNat']; omega
  show [Value.int .u8 n] = [Value.int .u8 ((UInt8.ofNat n.toNat).toNat : Int)]
  rw [hn]
theorem open_dg (fuel : Nat) (cs : List Value) (y : DataW H × List MemPlace) (h : DataW.trod enc Try.prog w 0 sp held fuel 28 cs = some y) : ∃ x : DgA, cs = encDgA x ∧ BS w encByte x.da x.data := by
  obtain ⟨xs, n, _, _, hl, hxl, hf⟩ := DataW.trod_struct Try.underlying28 h
  have hlen : cs.length = 3 := hl.trans (by kernel_rfl)
  have hx3 : xs.length = 3 := hxl
  have fld : ∀ (i : Nat) (fl : Field), (#[⟨"From", 3, 0, false, "", "", 0⟩, ⟨"To", 3, 1, false, "", "", 8⟩, ⟨"Data", 26, 2, false, "", "", 16⟩] : Array Field)[i]? = some fl → i < 3 →
      ∃ z, DataW.trod enc Try.prog w 0 sp held n fl.type ((cs.drop fl.offset).take (Try.prog.cellsOf fl.type)) = some z := by
    intro i fl h1 h2
    rw [hf i fl h1, List.getElem?_eq_getElem (by omega)]; exact ⟨_, rfl⟩
  obtain ⟨_, h0⟩ := fld 0 _ rfl (by omega)
  obtain ⟨_, h1⟩ := fld 1 _ rfl (by omega)
  obtain ⟨_, h2⟩ := fld 2 _ rfl (by omega)
  obtain ⟨n0, e0, _, _⟩ := DataW.trod_int Try.underlying3 h0
  obtain ⟨n1, e1, _, _⟩ := DataW.trod_int Try.underlying3 h1
  obtain ⟨da, bs, dc, e2, hb2, hc2, hm2, _⟩ := open_elems (f := encByte) (k := 1) Try.underlying26 (fun _ => rfl) (by kernel_rfl) (by decide) open_byte h2
  rw [show Try.prog.cellsOf _ = 1 from by kernel_rfl] at e0 e1 e2
  refine ⟨⟨n0, n1, da, dc, bs⟩, ?_, hb2⟩
  apply List.ext_getElem?
  intro i
  match i with
  | 0 => exact cut1 e0
  | 1 => exact cut1 e1
  | 2 => exact cut1 e2
  | i + 3 => rw [List.getElem?_eq_none (by omega), List.getElem?_eq_none (by simp [encDgA])]
theorem open_bool (fuel : Nat) (cs : List Value) (y : DataW H × List MemPlace) (h : DataW.trod enc Try.prog w 0 sp held fuel 4 cs = some y) : ∃ x : Bool, cs = encBool x ∧ True := by
  obtain ⟨b, e, _⟩ := DataW.trod_bool Try.underlying4 h
  exact ⟨b, e, trivial⟩
theorem open_ports (fuel : Nat) (cs : List Value) (y : DataW H × List MemPlace) (h : DataW.trod enc Try.prog w 0 sp held fuel 25 cs = some y) :
    ∃ (num lim : Int) (pa : Option Addr) (l : List DgA) (pc : Nat) (ta : Option Addr) (tk : List Bool) (tc : Nat), cs = [.int .i64 num, .int .i64 lim, .slice pa l.length pc, .slice ta tk.length tc] ∧
      BS w encDgA pa l ∧ BS w encBool ta tk ∧ l.length ≤ 9223372036854775807 ∧ tk.length ≤ 9223372036854775807 ∧ ∀ x ∈ l, BS w encByte x.da x.data := by
  obtain ⟨xs, n, _, _, hl, hxl, hf⟩ := DataW.trod_struct Try.underlying25 h
  have hlen : cs.length = 4 := hl.trans (by kernel_rfl)
  have hx4 : xs.length = 4 := hxl
  have fld : ∀ (i : Nat) (fl : Field), (#[⟨"Number", 3, 0, false, "", "", 0⟩, ⟨"Limit", 3, 1, false, "", "", 8⟩, ⟨"Puts", 22, 2, false, "", "", 16⟩, ⟨"Takes", 23, 3, false, "", "", 40⟩] : Array Field)[i]? = some fl → i < 4 →
      ∃ z, DataW.trod enc Try.prog w 0 sp held n fl.type ((cs.drop fl.offset).take (Try.prog.cellsOf fl.type)) = some z := by
    intro i fl h1 h2
    rw [hf i fl h1, List.getElem?_eq_getElem (by omega)]; exact ⟨_, rfl⟩
  obtain ⟨_, h0⟩ := fld 0 _ rfl (by omega)
  obtain ⟨_, h1⟩ := fld 1 _ rfl (by omega)
  obtain ⟨_, h2⟩ := fld 2 _ rfl (by omega)
  obtain ⟨_, h3⟩ := fld 3 _ rfl (by omega)
  obtain ⟨n0, e0, _, _⟩ := DataW.trod_int Try.underlying3 h0
  obtain ⟨n1, e1, _, _⟩ := DataW.trod_int Try.underlying3 h1
  obtain ⟨pa, l, pc, e2, hb2, hc2, hm2, hq2⟩ := open_elems (f := encDgA) (k := 3) Try.underlying22 (fun _ => rfl) (by kernel_rfl) (by decide) open_dg h2
  obtain ⟨ta, tk, tc, e3, hb3, hc3, hm3, _⟩ := open_elems (f := encBool) (k := 1) Try.underlying23 (fun _ => rfl) (by kernel_rfl) (by decide) open_bool h3
  rw [show Try.prog.cellsOf _ = 1 from by kernel_rfl] at e0 e1 e2 e3
  refine ⟨n0, n1, pa, l, pc, ta, tk, tc, ?_, hb2, hb3, by omega, by omega, hq2⟩
  apply List.ext_getElem?
  intro i
  match i with
  | 0 => exact cut1 e0
  | 1 => exact cut1 e1
  | 2 => exact cut1 e2
  | 3 => exact cut1 e3
  | i + 4 => rw [List.getElem?_eq_none (by omega), List.getElem?_eq_none (by simp)]
end
theorem Try.own : ownKnob Try.prog.godebug = none := by kernel_rfl
theorem Try.laidOut : laidOutB Try.prog = true := by kernel_rfl
theorem satI_start0 (W : World) : SatI W W ([] ++ [[]]) := ⟨Below.refl _ _, by simp, by simp, by simp⟩
theorem ports_lifted (os : Os) (started : os.Started) (H : Type) (enc : TypeId × Value → H) :
    ReturnsInHanded {} Try.checked os 3 .any (Rows.streamsPortsSpec.pre6 enc Try.prog Try.f3 Rows.streamsPortsRow.domain false) (Rows.streamsPortsSpec.post enc Try.prog Try.f3 false true false false) := by
  refine returnsInHanded_of_change (C := Try.checked) Try.own started (by kernel_rfl) Try.func3
    (ChangeSpec.witness6 (enc := enc) (C := Try.checked) false ⟨#[], #[.agg #[.int .i64 0, .int .i64 0, .slice none 0 0, .slice none 0 0]], []⟩ 8 (by kernel_rfl) (by kernel_rfl) (by kernel_rfl) (by kernel_rfl)) ?_
  intro W base args ds gs before hval0 hW hcnd _
  have hval : ∀ (j : Nat) t v, Try.f3.params[j]? = some t → args[j]? = some v → Value.okWide Try.prog W .any base t v := hval0
  have hW' := hW
  obtain ⟨p, q, hA0, hV, rfl, hfz, hnd⟩ := hW
  have hA : DataW.TrodAll enc Try.prog W 0 (fun _ => true) true Try.f3.params.toList args.toList ds p := hA0
  rw [Try.params3] at hA hval
  obtain ⟨v0, d0, rfl, rfl, h0⟩ := trodAll_one hA
  obtain ⟨rfl, rfl⟩ := trodVars_none hV
  obtain ⟨c0, rfl, hc0⟩ := okWide_struct Try.underlying25 (hval 0 25 v0 rfl rfl)
  have h0k := h0
  obtain ⟨f0, h0⟩ := h0
  obtain ⟨num, lim, pa, l, pc, ta, tk, tc, e0, hB, hT, hn, hk, hD⟩ := open_ports _ _ _ h0
  simp only [List.append_nil] at hW'
  have e1 : c0 = #[.int .i64 num, .int .i64 lim, .slice pa l.length pc, .slice ta tk.length tc] := by
    simp only [Value.cells] at e0
    apply Array.ext'
    exact e0
  subst e1
  have hlt0 : ∀ x ∈ p, x.block < W.heap.size := fun x hx => by have := hW'.lt x (by simp [hx]); simpa using this
  refine (c_ports W num lim pa ta pc tc l tk hB hT hn hk hD [] (by intro x hx; cases hx) W (satI_start0 W)).mono ?_
  rintro e W' ⟨_, _, rfl, hs⟩
  have hb : Below W.heap.size W W' := hs.below
  refine ⟨_, rfl, _, _, _, [], p, [], hW', ?_, ?_, rfl, hb.frame _, fun h => by cases h⟩
  · exact trodAll_mk1 (shut_bool Try.underlying4 true)
  · exact trodAll_mk1 (Below.trod Try.laidOut (by kernel_rfl) (of_decide_eq_true (by kernel_rfl)) h0k hb hlt0)
theorem streamsPorts_holds : Rows.StreamsPortsSaid :=
  OpenClaim.holds_of_wide 3 Try.f3 rfl rfl rfl rfl rfl rfl rfl ⟨rfl, rfl, rfl, rfl, rfl⟩ rfl rfl rfl rfl rfl (by kernel_rfl) Try.func3 (by kernel_rfl)
    (of_decide_eq_true (by kernel_rfl)) (by unfold Func.isWrapper; first | (rw [if_pos (by decide +kernel)]; kernel_rfl) | (rw [if_neg (by decide +kernel)]; exact ⟨rfl, rfl⟩))
    (fun os started H enc _ => ports_lifted os started H enc)
end Go.Proofs.Ytcobccdeocihbaa
