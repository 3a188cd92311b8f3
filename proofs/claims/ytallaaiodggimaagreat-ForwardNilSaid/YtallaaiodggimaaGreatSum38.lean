/- The run with summaries: the living call goes by its contract; a text that is not looked into is cut as a text. -/
import Derived.Test.YtallaaiodggimaaGreatExt
import Derived.Test.YtallaaiodggimaaGreatSym
import Derived.Test.YtallaaiodggimaaGreatLives38
import Derived.Lib.Hide
import Derived.Handy
import Derived.Test.YtallaaiodggimaaGreatBitS
namespace Go.Proofs.YtallaaiodggimaaGreat
open Go.RowKit
set_option linter.unusedVariables false
set_option linter.unusedSimpArgs false
theorem R.Rel.calm {w0 : R.Base} {i : R.Inj} {g : Nat → Option R.AO} {n : Nat} {w w' : World} (h : R.Rel w0 i g n w) (hm : Mod (fun _ => False) w w') : R.Rel w0 i g n w' :=
  ⟨h.mod.trans hm fun _ f => f.elim, h.dom, fun b k N hb => ⟨(h.lo b k N hb).1, Nat.lt_of_lt_of_le (h.lo b k N hb).2 hm.size⟩, h.inj, fun b o k N hg hi => let ⟨ob, h1, h2⟩ := h.obj b o k N hg hi; ⟨ob, hm.keep h1 fun f => f, h2⟩, h.gh⟩
theorem lives_fn : ∃ r, R.fnOk Tryz.prog 16 = some r := Option.isSome_iff_exists.1 (by kernel_rfl)
def sumLives (xs : List R.AV) (h : R.Hp) : Option (List (R.AV × R.Hp)) :=
  match xs with
  | [] => some [(.v (.c (.x (.bool true))), h)]
  | _ => none
theorem sumLives_eq {xs : List R.AV} {h : R.Hp} {L : List (R.AV × R.Hp)} (hs : sumLives xs h = some L) : xs = [] ∧ L = [(.v (.c (.x (.bool true))), h)] := by
  unfold sumLives at hs
  split at hs
  · simp at hs; exact ⟨rfl, hs.symm⟩
  · cases hs
/-- a text's first bytes -/
def cutB (s : ByteArray) (n : Int) : ByteArray := if (s.size : Int) > n then s.extract 0 n.toNat else s
theorem Cut_any (s : ByteArray) (n : Int) (h0 : 0 ≤ n) (h1 : n < 9223372036854775808) (w : World) : Calls Tryz.prog 6 #[.string s, .int .i64 n] w fun e w' => e = .returned (.string (cutB s n)) ∧ w = w' := by
  go_enter Tryz.func6, Tryz.ntmps6
  by_cases h : (s.size : Int) > n
  · have EA : Hid (cutB s n = s.extract 0 n.toNat) := Lib.hid (if_pos h)
    have h' : n < (s.size : Int) := h
    go_wp2
    go_ret
    exact ⟨by rw [EA.out]; rfl, rfl⟩
  · have EA : Hid (cutB s n = s) := Lib.hid (if_neg h)
    have h' : ¬ n < (s.size : Int) := h
    go_wp2
    go_ret
    exact ⟨by rw [EA.out]; rfl, rfl⟩
theorem cut_fn : ∃ r, R.fnOk Tryz.prog 6 = some r := Option.isSome_iff_exists.1 (by kernel_rfl)
def sumCut (xs : List R.AV) (h : R.Hp) : Option (List (R.AV × R.Hp)) :=
  match xs with
  | [.v (.c (.x (.string s))), .v (.c (.x (.int .i64 (.ofNat n))))] => cond (Nat.ble n 1000) (some [(.v (.c (.x (.string (cutB s n)))), h)]) none
  | _ => none
theorem sumCut_eq {xs : List R.AV} {h : R.Hp} {L : List (R.AV × R.Hp)} (hs : sumCut xs h = some L) : ∃ (s : ByteArray) (n : Nat), xs = [.v (.c (.x (.string s))), .v (.c (.x (.int .i64 (n : Int))))] ∧ n ≤ 1000 ∧ L = [(.v (.c (.x (.string (cutB s n)))), h)] := by
  unfold sumCut at hs
  split at hs
  · rename_i s n
    cases hb : Nat.ble n 1000 with
    | true =>
      rw [hb] at hs
      simp at hs
      exact ⟨s, n, rfl, Nat.le_of_ble_eq_true hb, hs.symm⟩
    | false => rw [hb] at hs; cases hs
  · cases hs
def EXS : R.Env := ⟨extL, fun g xs h => cond (Nat.beq g 16) (sumLives xs h) (cond (Nat.beq g 6) (sumCut xs h) (EXB.S g xs h))⟩
theorem exs_ok : R.EOk Tryz.prog EXS := by
  refine ⟨ext_ok.x, fun w0 g xs h L hs => ?_⟩
  have hs' : cond (Nat.beq g 16) (sumLives xs h) (cond (Nat.beq g 6) (sumCut xs h) (EXB.S g xs h)) = some L := hs
  cases hb : Nat.beq g 16 with
  | true =>
    rw [hb] at hs'
    obtain rfl := Nat.eq_of_beq_eq_true hb
    obtain ⟨rfl, rfl⟩ := sumLives_eq hs'
    refine ⟨lives_fn, fun i us w hl hR => ?_⟩
    obtain ⟨us⟩ := us
    match us, hl with
    | [], _ =>
      refine callsIn_wide.2 ((lives38_any w).mono fun e w' he => ?_)
      obtain ⟨rfl, hm⟩ := he
      exact ⟨_, List.mem_singleton.2 rfl, i, _, rfl, R.Le.refl i, ⟨rfl, rfl⟩, hR.calm hm⟩
  | false =>
    rw [hb] at hs'
    cases hb2 : Nat.beq g 6 with
    | false => rw [hb2] at hs'; exact exb_ok.s w0 g xs h L hs'
    | true =>
      rw [hb2] at hs'
      obtain rfl := Nat.eq_of_beq_eq_true hb2
      obtain ⟨s, n, rfl, hn, rfl⟩ := sumCut_eq hs'
      refine ⟨cut_fn, fun i us w hl hR => ?_⟩
      obtain ⟨us⟩ := us
      match us, hl with
      | [a, b], ⟨h1, h2, _⟩ =>
        have e1 : a = .string s := h1.1
        have e2 : b = .int .i64 (n : Int) := h2.1
        subst e1
        subst e2
        refine callsIn_wide.2 ((Cut_any s n (by omega) (by omega) w).mono fun e w' he => ?_)
        obtain ⟨rfl, rfl⟩ := he
        exact ⟨_, List.mem_singleton.2 rfl, i, _, rfl, R.Le.refl i, ⟨rfl, rfl⟩, hR⟩
end Go.Proofs.YtallaaiodggimaaGreat
