/- The calculus, nineteenth part: values in other words. -/
import Derived.Test.YtmhjcemcjfkejaaJ18
namespace Go.Proofs.Ytmhjcemcjfkejaa
open Go.RowKit
set_option linter.unusedVariables false
set_option linter.unusedSimpArgs false
section
variable {P : Program} {B : Base} {e : Env} {K : List Ent}
theorem LS_val {o : Oper} {ι : Type} {v : ι → Value} {K' : ι → List Ent} (v' : ι → Value) (h : LS P B o e K v K') (hv : ∀ i, v i = v' i) : LS P B o e K v' K' := by
  have : v = v' := funext hv
  exact this ▸ h
theorem LS_val1 {o : Oper} {v : Value} (v' : Value) (h : LS P B o e K (fun _ : Unit => v) (fun _ => K)) (hv : v = v') : LS P B o e K (fun _ : Unit => v') (fun _ => K) := hv ▸ h
end
end Go.Proofs.Ytmhjcemcjfkejaa
