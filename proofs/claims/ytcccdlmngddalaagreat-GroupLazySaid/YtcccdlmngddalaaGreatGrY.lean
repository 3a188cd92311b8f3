/- What a record comes to: plain; a step handed out. -/
import Derived.Test.YtcccdlmngddalaaGreatGrX
namespace Go.Proofs.YtcccdlmngddalaaGreat
open Go.RowKit Go.Sort
set_option linter.unusedVariables false
set_option linter.unusedSimpArgs false
structure St where
  ex : Bool
  on : List Ad
  off : List Ad
  full : List Ad
  rest : List Ad
  grp : Bool
def RetP (w : World) (s : St) (e : Ending) (w' : World) : Prop := ∃ a1 n1 c1 a2 n2 c2 a3 n3 c3 a4 n4 c4 a6 n6 c6 al, e = .returned (.agg #[.bool s.ex, .slice a1 n1 c1, .slice a2 n2 c2, .slice a3 n3 c3, .slice a4 n4 c4, .bool s.grp, .slice a6 n6 c6, .bool al]) ∧
  RT w' (.slice a1 n1 c1) s.on ∧ RT w' (.slice a2 n2 c2) s.off ∧ RT w' (.slice a3 n3 c3) s.full ∧ RT w' (.slice a4 n4 c4) s.rest ∧ Mod (fun _ => False) w w'
def incl (a : List Ad) (k : Int) (b : List Ad) : St :=
  if k = 1 ∨ k = 5 ∨ k = 3 then ⟨false, orA a b, [], b, [], false⟩
  else if k = 2 ∨ k = 4 then ⟨true, andA a b, minA b a, [], [], true⟩
  else ⟨false, a, [], [], [], false⟩
def excl (x y : List Ad) (k : Int) (b : List Ad) : St :=
  if k = 1 ∨ k = 5 ∨ k = 3 then ⟨true, orA x b, minA y b, b, [], false⟩
  else if k = 2 then ⟨true, minA b y, andA y b, minA (minA b x) y, [], true⟩
  else if k = 4 then ⟨true, minA b y, andA y b, [], minA (minA b x) y, true⟩
  else if k = 6 then ⟨true, orA x (minA b y), y, [], minA (minA b x) y, false⟩
  else ⟨true, x, y, [], [], false⟩
def appl (ex : Bool) (on off : List Ad) (k : Int) (l : List Ad) : St := if ex then excl on off k (ofA l) else incl on k (ofA l)
end Go.Proofs.YtcccdlmngddalaaGreat
