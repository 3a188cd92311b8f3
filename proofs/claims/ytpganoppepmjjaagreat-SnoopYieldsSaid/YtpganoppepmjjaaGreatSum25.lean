/- The run with summaries: the living call goes by its contract. -/
import Derived.Test.YtpganoppepmjjaaGreatExt
import Derived.Test.YtpganoppepmjjaaGreatSym
import Derived.Test.YtpganoppepmjjaaGreatLives25
import Derived.Lib.Hide
import Derived.Handy
namespace Go.Proofs.YtpganoppepmjjaaGreat
open Go.RowKit
set_option linter.unusedVariables false
set_option linter.unusedSimpArgs false
set_option linter.unusedSectionVars false
variable [vl : R.Val]
theorem R.Rel.calm {w0 : R.Base} {i : R.Inj} {g : Nat → Option R.AO} {n : Nat} {w w' : World} (h : R.Rel w0 i g n w) (hm : Mod (fun _ => False) w w') : R.Rel w0 i g n w' :=
  ⟨h.mod.trans hm fun _ f => f.elim, h.dom, fun b k N hb => ⟨(h.lo b k N hb).1, Nat.lt_of_lt_of_le (h.lo b k N hb).2 hm.size⟩, h.inj, fun b o k N hg hi => let ⟨ob, h1, h2⟩ := h.obj b o k N hg hi; ⟨ob, hm.keep h1 fun f => f, h2⟩, h.gh⟩
theorem lives_fn : ∃ r, R.fnOk Tryz.prog 9 = some r := Option.isSome_iff_exists.1 (by kernel_rfl)
def sumLives (xs : List R.AV) (h : R.Hp) : Option (List (R.AV × R.Hp)) :=
  match xs with
  | [] => some [(.v (.c (.x (.bool true))), h)]
  | _ => none
theorem sumLives_eq {xs : List R.AV} {h : R.Hp} {L : List (R.AV × R.Hp)} (hs : sumLives xs h = some L) : xs = [] ∧ L = [(.v (.c (.x (.bool true))), h)] := by
  unfold sumLives at hs
  split at hs
  · simp at hs; exact ⟨rfl, hs.symm⟩
  · cases hs
def EXS : R.Env := ⟨extL, fun g xs h => cond (Nat.beq g 9) (sumLives xs h) ((R.EX extL).S g xs h)⟩
theorem exs_ok : R.EOk Tryz.prog EXS := by
  refine ⟨ext_ok.x, fun w0 g xs h L hs => ?_⟩
  have hs' : cond (Nat.beq g 9) (sumLives xs h) ((R.EX extL).S g xs h) = some L := hs
  cases hb : Nat.beq g 9 with
  | true =>
    rw [hb] at hs'
    obtain rfl := Nat.eq_of_beq_eq_true hb
    obtain ⟨rfl, rfl⟩ := sumLives_eq hs'
    refine ⟨lives_fn, fun i us w hl hR => ?_⟩
    obtain ⟨us⟩ := us
    match us, hl with
    | [], _ =>
      refine callsIn_wide.2 ((lives25_any w).mono fun e w' he => ?_)
      obtain ⟨rfl, hm⟩ := he
      exact ⟨_, List.mem_singleton.2 rfl, i, _, rfl, R.Le.refl i, ⟨rfl, rfl⟩, hR.calm hm⟩
  | false =>
    rw [hb] at hs'
    exact ext_ok.s w0 g xs h L hs'
end Go.Proofs.YtpganoppepmjjaaGreat
