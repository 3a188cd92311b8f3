/- addr.Zero, Group, Good, Cmp, cmp.Compare, cmp.Or: contracts, whatever the addresses are. -/
import Derived.Test.YtcccdlmngddalaaGreatAdrC
import Derived.Test.YtcccdlmngddalaaGreatRdE
set_option linter.unusedVariables false
set_option linter.unusedSimpArgs false
namespace Go.Proofs.YtcccdlmngddalaaGreat
open Go.RowKit
theorem wpList_val {P : Program} {ops : Array Oper} {rest : List Oper} {o : Oper} {a : Act} {w : World} {Q : Exit → Act → World → Prop} (hgd : o.guard = none) (v : Value) (hr : (execOp a.eval o).run P w = .ok (.value v) w) (h : wpList P ops Q rest (a.put o.dst v) w) : wpList P ops Q (o :: rest) a w :=
  wpList_plain hgd fun K hK => by
    unfold Oper.wp
    rw [hr]
    exact hK _ _ h
theorem adr_four {b : List Int} (h : b.length = 16) : ∃ x y z u r, b = x :: y :: z :: u :: r ∧ r.length = 12 := by
  match b, h with
  | x :: y :: z :: u :: r, h => exact ⟨x, y, z, u, r, rfl, by simpa using h⟩
theorem addrGood_any (v : Bool) (b : List Int) (hb : b.length = 16) (w : World) : Calls Tryz.prog 55 #[.agg (adrC v b).toArray] w fun e w' => e = .returned (.bool (adrGood v b)) ∧ Mod (fun _ => False) w w' := by
  obtain ⟨x, y, z, u, r, rfl, hr⟩ := adr_four hb
  exact Good_any v x y z u r hr w
end Go.Proofs.YtcccdlmngddalaaGreat
