/- A loop walked round by round. -/
import Derived.Test.YtcobccdeocihbaaSu
import Derived.LoopNIn
set_option linter.unusedVariables false
set_option linter.unusedSimpArgs false
namespace Go.Sx
open Go
section
variable {P : Program} {W : World} {base : List Blk} {m : Option Nat} {n : Nat} {ds : List Deferred} {Q : Exit → Act → World → Prop} {k : List KI} {e : Env} {its : Items}
/-- A loop, round by round: at most r + 1 rounds. -/
theorem sRounds {body : Code} (r : Nat) (h : WS P W base m n ds Q (.code body :: .till (Code.roundsIn (FR m) 0 P body (post P m Q k) r) :: k) e its) : WS P W base m n ds Q (.code (.loop body) :: k) e its := by
  intro hb hq a w hs hsat
  exact wpIn_loop_rounds (r + 1) (h hb hq a w hs hsat)
theorem sRound {body : Code} (r : Nat) (h : WS P W base m n ds Q (.code body :: .till (Code.roundsIn (FR m) 0 P body (post P m Q k) r) :: k) e its) : WS P W base m n ds Q (.till (Code.roundsIn (FR m) 0 P body (post P m Q k) (r + 1)) :: k) e its :=
  fun hb hq a w hs hsat => h hb hq a w hs hsat
end
end Go.Sx
