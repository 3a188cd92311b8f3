/- What a record comes to: plain; a step handed out. -/
import Derived.Test.YtcccdlmngddalaaGreatGrX
set_option linter.unusedVariables false
set_option linter.unusedSimpArgs false
namespace Go.Proofs.YtcccdlmngddalaaGreat
open Go.RowKit Go.Sort
structure St where
  ex : Bool
  on : List Ad
  off : List Ad
  full : List Ad
  rest : List Ad
  grp : Bool
def RetP (w : World) (s : St) (e : Ending) (w' : World) : Prop := ∃ a1 n1 c1 a2 n2 c2 a3 n3 c3 a4 n4 c4 a6 n6 c6 al, e = .returned (.agg #[.bool s.ex, .slice a1 n1 c1, .slice a2 n2 c2, .slice a3 n3 c3, .slice a4 n4 c4, .bool s.grp, .slice a6 n6 c6, .bool al]) ∧
  RT w' (.slice a1 n1 c1) s.on ∧ RT w' (.slice a2 n2 c2) s.off ∧ RT w' (.slice a3 n3 c3) s.full ∧ RT w' (.slice a4 n4 c4) s.rest ∧ Mod (fun _ => False) w w'
def incl (a : List Ad) (k : Int) (b : List Ad) : St :=
  if k = 1 ∨ k = 5 ∨ k = 3 then ⟨false, orA a b, [], b, [], false⟩
  else if k = 2 ∨ k = 4 then ⟨true, andA a b, minA b a, [], [], true⟩
  else ⟨false, a, [], [], [], false⟩
def excl (x y : List Ad) (k : Int) (b : List Ad) : St :=
  if k = 1 ∨ k = 5 ∨ k = 3 then ⟨true, orA x b, minA y b, b, [], false⟩
  else if k = 2 then ⟨true, minA b y, andA y b, minA (minA b x) y, [], true⟩
  else if k = 4 then ⟨true, minA b y, andA y b, [], minA (minA b x) y, true⟩
  else if k = 6 then ⟨true, orA x (minA b y), y, [], minA (minA b x) y, false⟩
  else ⟨true, x, y, [], [], false⟩
def appl (ex : Bool) (on off : List Ad) (k : Int) (l : List Ad) : St := if ex then excl on off k (ofA l) else incl on k (ofA l)
def RetP2 (w : World) (s : St) (ask : List Ad) (all : Bool) (e : Ending) (w' : World) : Prop := ∃ a1 n1 c1 a2 n2 c2 a3 n3 c3 a4 n4 c4 a6 n6 c6, e = .returned (.agg #[.bool s.ex, .slice a1 n1 c1, .slice a2 n2 c2, .slice a3 n3 c3, .slice a4 n4 c4, .bool s.grp, .slice a6 n6 c6, .bool all]) ∧
  RT w' (.slice a1 n1 c1) s.on ∧ RT w' (.slice a2 n2 c2) s.off ∧ RT w' (.slice a3 n3 c3) s.full ∧ RT w' (.slice a4 n4 c4) s.rest ∧ RT w' (.slice a6 n6 c6) ask ∧ Mod (fun _ => False) w w'
theorem RetP2.weak {w : World} {s : St} {ask : List Ad} {all : Bool} {e : Ending} {w' : World} (h : RetP2 w s ask all e w') : RetP w s e w' := by
  obtain ⟨a1, n1, c1, a2, n2, c2, a3, n3, c3, a4, n4, c4, a6, n6, c6, h0, h1, h2, h3, h4, _, h6⟩ := h
  exact ⟨a1, n1, c1, a2, n2, c2, a3, n3, c3, a4, n4, c4, a6, n6, c6, all, h0, h1, h2, h3, h4, h6⟩
def askI (a : List Ad) (k : Int) (b : List Ad) : List Ad := if k = 3 then minA a b else if k = 4 ∨ k = 6 then andA a b else []
def askX (x y : List Ad) (k : Int) (b : List Ad) : List Ad := if k = 3 then minA x b else if k = 4 ∨ k = 6 then minA b y else []
def askS (ex : Bool) (on off : List Ad) (k : Int) (l : List Ad) : List Ad := if ex then askX on off k (ofA l) else askI on k (ofA l)
def allS (ex : Bool) (k : Int) : Bool := ex && decide (k = 3)
end Go.Proofs.YtcccdlmngddalaaGreat
