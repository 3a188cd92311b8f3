/- A table's rows, as bytes tell them, when they are good, and which stands first: plain, no program in sight. -/
import Derived.Test.YtcccdlmngddalaaGreatAdrE
set_option linter.unusedVariables false
set_option linter.unusedSimpArgs false
namespace Go.Proofs.YtcccdlmngddalaaGreat
structure TRow where
  vlan : Int
  v6 : Bool
  b : List Int
  root : Int
  next : List Int
def byt (s : ByteArray) (i : Nat) : Int := ((s.data.toList[i]?.getD 0).toNat : Int)
def wideAt (s : ByteArray) (p : Nat) : Nat := if byt s p = 1 then 16 else 4
def cntAt (s : ByteArray) (p : Nat) : Nat := (byt s (p + 5 + wideAt s p)).toNat
def nxtAt (s : ByteArray) (p : Nat) : Nat := p + 6 + wideAt s p + 2 * cntAt s p
def num2 (s : ByteArray) (i : Nat) : Int := 256 * byt s i + byt s (i + 1)
def adrAt (s : ByteArray) (q wide : Nat) : List Int := (List.range 16).map fun k => if k < wide then byt s (q + k) else 0
theorem adrAt_len (s : ByteArray) (q wide : Nat) : (adrAt s q wide).length = 16 := by simp [adrAt]
def nextAt (s : ByteArray) (q n : Nat) : List Int := (List.range n).map fun k => num2 s (q + 2 * k)
def rowOf (s : ByteArray) (p : Nat) : TRow := ⟨num2 s (p + 1), decide (byt s p = 1), adrAt s (p + 5) (wideAt s p), num2 s (p + 3), nextAt s (p + 6 + wideAt s p) (cntAt s p)⟩
structure PS where
  p : Nat
  rs : List TRow
  ok : Bool
def fullAt (s : ByteArray) (p : Nat) : Prop := nxtAt s p ≤ s.size
instance (s : ByteArray) (p : Nat) : Decidable (fullAt s p) := inferInstanceAs (Decidable (_ ≤ _))
def More (s : ByteArray) (x : PS) : Prop := x.p < s.size ∧ fullAt s x.p
instance (s : ByteArray) (x : PS) : Decidable (More s x) := inferInstanceAs (Decidable (_ ∧ _))
def stp (s : ByteArray) (x : PS) : PS := if More s x then ⟨nxtAt s x.p, x.rs ++ [rowOf s x.p], x.ok && decide (byt s x.p ≤ 1)⟩ else x
def st (s : ByteArray) : Nat → PS
  | 0 => ⟨0, [], true⟩
  | n + 1 => stp s (st s n)
/- good rows -/
def adrGood (v : Bool) (b : List Int) : Bool := v || decide (b.drop 4 = List.replicate 12 0)
def cmpI (a b : Int) : Int := if a < b then -1 else if b < a then 1 else 0
def cmpL : List Int → List Int → Int
  | a :: l, b :: m => if a < b then -1 else if b < a then 1 else cmpL l m
  | _, _ => 0
def cmpA (v : Bool) (b : List Int) (v' : Bool) (b' : List Int) : Int := if v = v' then cond v (cmpL b b') (cmpL (b.take 4) (b'.take 4)) else cond v' (-1) 1
end Go.Proofs.YtcccdlmngddalaaGreat
