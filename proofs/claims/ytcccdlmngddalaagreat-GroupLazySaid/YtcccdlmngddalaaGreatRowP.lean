/- A table's rows, as bytes tell them, when they are good, and which stands first: plain, no program in sight. -/
import Derived.Test.YtcccdlmngddalaaGreatAdrE
namespace Go.Proofs.YtcccdlmngddalaaGreat
set_option linter.unusedVariables false
set_option linter.unusedSimpArgs false
structure TRow where
  vlan : Int
  v6 : Bool
  b : List Int
  root : Int
  next : List Int
def byt (s : ByteArray) (i : Nat) : Int := ((s.data.toList[i]?.getD 0).toNat : Int)
theorem byt_bd (s : ByteArray) (i : Nat) : 0 ≤ byt s i ∧ byt s i < 256 := by
  unfold byt
  have := (s.data.toList[i]?.getD 0).toNat_lt
  omega
def wideAt (s : ByteArray) (p : Nat) : Nat := if byt s p = 1 then 16 else 4
theorem wideAt_le (s : ByteArray) (p : Nat) : 4 ≤ wideAt s p ∧ wideAt s p ≤ 16 := by unfold wideAt; split <;> omega
def cntAt (s : ByteArray) (p : Nat) : Nat := (byt s (p + 5 + wideAt s p)).toNat
def nxtAt (s : ByteArray) (p : Nat) : Nat := p + 6 + wideAt s p + 2 * cntAt s p
def num2 (s : ByteArray) (i : Nat) : Int := 256 * byt s i + byt s (i + 1)
theorem num2_bd (s : ByteArray) (i : Nat) : 0 ≤ num2 s i ∧ num2 s i < 65536 := by
  unfold num2
  have := byt_bd s i
  have := byt_bd s (i + 1)
  omega
def adrAt (s : ByteArray) (q wide : Nat) : List Int := (List.range 16).map fun k => if k < wide then byt s (q + k) else 0
theorem adrAt_len (s : ByteArray) (q wide : Nat) : (adrAt s q wide).length = 16 := by simp [adrAt]
def nextAt (s : ByteArray) (q n : Nat) : List Int := (List.range n).map fun k => num2 s (q + 2 * k)
theorem nextAt_len (s : ByteArray) (q n : Nat) : (nextAt s q n).length = n := by simp [nextAt]
theorem nextAt_snoc (s : ByteArray) (q n : Nat) : nextAt s q (n + 1) = nextAt s q n ++ [num2 s (q + 2 * n)] := by simp [nextAt, List.range_succ]
def rowOf (s : ByteArray) (p : Nat) : TRow := ⟨num2 s (p + 1), decide (byt s p = 1), adrAt s (p + 5) (wideAt s p), num2 s (p + 3), nextAt s (p + 6 + wideAt s p) (cntAt s p)⟩
structure PS where
  p : Nat
  rs : List TRow
  ok : Bool
def fullAt (s : ByteArray) (p : Nat) : Prop := nxtAt s p ≤ s.size
instance (s : ByteArray) (p : Nat) : Decidable (fullAt s p) := inferInstanceAs (Decidable (_ ≤ _))
def More (s : ByteArray) (x : PS) : Prop := x.p < s.size ∧ fullAt s x.p
instance (s : ByteArray) (x : PS) : Decidable (More s x) := inferInstanceAs (Decidable (_ ∧ _))
def stp (s : ByteArray) (x : PS) : PS := if More s x then ⟨nxtAt s x.p, x.rs ++ [rowOf s x.p], x.ok && decide (byt s x.p ≤ 1)⟩ else x
def st (s : ByteArray) : Nat → PS
  | 0 => ⟨0, [], true⟩
  | n + 1 => stp s (st s n)
theorem st_le (s : ByteArray) : ∀ n, (st s n).p ≤ s.size ∧ 10 * (st s n).rs.length ≤ (st s n).p
  | 0 => ⟨Nat.zero_le _, Nat.zero_le _⟩
  | n + 1 => by
    have ih := st_le s n
    rw [show st s (n + 1) = stp s (st s n) from rfl]
    unfold stp
    split
    · rename_i h
      refine ⟨h.2, ?_⟩
      have := wideAt_le s (st s n).p
      show 10 * ((st s n).rs ++ [rowOf s (st s n).p]).length ≤ nxtAt s (st s n).p
      rw [List.length_append, List.length_singleton]
      unfold nxtAt
      omega
    · exact ih
theorem st_len {s : ByteArray} {n : Nat} (h : ∀ m, m < n → More s (st s m)) : (st s n).rs.length = n := by
  induction n with
  | zero => rfl
  | succ n ih =>
    have hm := h n (by omega)
    show (stp s (st s n)).rs.length = n + 1
    unfold stp
    rw [if_pos hm]
    simp [ih fun m hm => h m (by omega)]
theorem st_stop {s : ByteArray} {n : Nat} (h : ¬ More s (st s n)) : ∀ k, st s (n + k) = st s n
  | 0 => rfl
  | k + 1 => by
    show stp s (st s (n + k)) = _
    rw [st_stop h k]
    unfold stp
    rw [if_neg h]
theorem st_one {s : ByteArray} {n m : Nat} (h : ¬ More s (st s n)) (g : ¬ More s (st s m)) : st s n = st s m := by
  rcases Nat.le_total n m with hl | hl
  · obtain ⟨k, rfl⟩ := Nat.exists_eq_add_of_le hl
    exact (st_stop h k).symm
  · obtain ⟨k, rfl⟩ := Nat.exists_eq_add_of_le hl
    exact st_stop g k
/- good rows -/
def allTo (n : Nat) (f : Nat → Bool) : Bool := (List.range n).all f
theorem allTo_true {n : Nat} {f : Nat → Bool} (h : ∀ j, j < n → f j = true) : allTo n f = true := by
  unfold allTo
  rw [List.all_eq_true]
  intro j hj
  exact h j (List.mem_range.1 hj)
theorem allTo_false {n j : Nat} {f : Nat → Bool} (hj : j < n) (h : f j = false) : allTo n f = false := by
  cases ha : allTo n f with
  | false => rfl
  | true =>
    unfold allTo at ha
    rw [List.all_eq_true] at ha
    rw [ha j (List.mem_range.2 hj)] at h
    cases h
def nextOk (xs : List Int) (i : Nat) : Bool := decide (0 ≤ xs.getD i 0 ∧ xs.getD i 0 ≤ 65535 ∧ (0 < i → xs.getD (i - 1) 0 < xs.getD i 0))
def adrGood (v : Bool) (b : List Int) : Bool := v || decide (b.drop 4 = List.replicate 12 0)
def adrZero (b : List Int) : Bool := decide (b = List.replicate 16 0)
def adrGroup (v : Bool) (b : List Int) : Bool := cond v (decide (b.getD 0 0 = 255)) (decide (224 ≤ b.getD 0 0 ∧ b.getD 0 0 ≤ 239))
def oneT (r : TRow) : Bool := allTo r.next.length (nextOk r.next) && (adrGood r.v6 r.b && (adrZero r.b || adrGroup r.v6 r.b) && decide (0 ≤ r.vlan ∧ r.vlan ≤ 4094) && decide (0 ≤ r.root ∧ r.root ≤ 65535) && decide (1 ≤ r.next.length ∧ r.next.length ≤ 255))
def cmpI (a b : Int) : Int := if a < b then -1 else if b < a then 1 else 0
def cmpL : List Int → List Int → Int
  | a :: l, b :: m => if a < b then -1 else if b < a then 1 else cmpL l m
  | _, _ => 0
def cmpA (v : Bool) (b : List Int) (v' : Bool) (b' : List Int) : Int := if v = v' then cond v (cmpL b b') (cmpL (b.take 4) (b'.take 4)) else cond v' (-1) 1
def or3 (x y z : Int) : Int := if x ≠ 0 then x else if y ≠ 0 then y else z
def cmpT (a b : TRow) : Int := or3 (cmpI a.vlan b.vlan) (cmpA a.v6 a.b b.v6 b.b) (cmpI a.root b.root)
theorem cmpI_in (a b : Int) : cmpI a b = -1 ∨ cmpI a b = 0 ∨ cmpI a b = 1 := by unfold cmpI; split; simp; split <;> simp
theorem cmpL_in : ∀ l m : List Int, cmpL l m = -1 ∨ cmpL l m = 0 ∨ cmpL l m = 1
  | [], _ => by simp [cmpL]
  | _ :: _, [] => by simp [cmpL]
  | a :: l, b :: m => by
    unfold cmpL
    split
    · simp
    · split
      · simp
      · exact cmpL_in l m
theorem cmpA_in (v : Bool) (b : List Int) (v' : Bool) (b' : List Int) : cmpA v b v' b' = -1 ∨ cmpA v b v' b' = 0 ∨ cmpA v b v' b' = 1 := by
  unfold cmpA
  split
  · cases v <;> exact cmpL_in _ _
  · cases v' <;> simp
theorem cmpT_in (a b : TRow) : cmpT a b = -1 ∨ cmpT a b = 0 ∨ cmpT a b = 1 := by
  unfold cmpT or3
  split
  · exact cmpI_in _ _
  · split
    · exact cmpA_in _ _ _ _
    · exact cmpI_in _ _
def rowNo : TRow := ⟨0, false, [], 0, []⟩
def stepT (rs : List TRow) (i : Nat) : Bool := oneT (rs.getD i rowNo) && (decide (i = 0) || decide (cmpT (rs.getD (i - 1) rowNo) (rs.getD i rowNo) = -1))
def goodT (rs : List TRow) : Bool := allTo rs.length (stepT rs) && decide (rs.length ≤ 2048)
end Go.Proofs.YtcccdlmngddalaaGreat
