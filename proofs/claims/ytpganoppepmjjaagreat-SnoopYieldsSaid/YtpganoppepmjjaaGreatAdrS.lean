/- The run with summaries: addr.Good and addr.Cmp by their contracts, whatever the bytes are. -/
import Derived.Test.YtpganoppepmjjaaGreatAdrC
import Derived.Test.YtpganoppepmjjaaGreatSum25
namespace Go.Proofs.YtpganoppepmjjaaGreat
open Go.RowKit
set_option linter.unusedVariables false
set_option linter.unusedSectionVars false
set_option linter.unusedSimpArgs false
variable [vl : R.Val]
theorem good_fn : ∃ r, R.fnOk Tryz.prog 26 = some r := Option.isSome_iff_exists.1 (by kernel_rfl)
theorem cmp_fn : ∃ r, R.fnOk Tryz.prog 78 = some r := Option.isSome_iff_exists.1 (by kernel_rfl)
def u8i : List R.Cel → Option (List Int)
  | [] => some []
  | .x (.int .u8 n) :: l => (match u8i l with | some m => some (n :: m) | none => none)
  | .q n :: l => cond (decide (R.Val.k n = .u8)) (match u8i l with | some m => some (R.Val.n n :: m) | none => none) none
  | _ => none
theorem u8i_eq {i : R.Inj} : ∀ {l : List R.Cel} {us : List Value} {m : List Int}, R.LR (R.CR i) l us → u8i l = some m → us = m.map (Value.int .u8)
  | [], [], m, _, hh => by simp [u8i] at hh; subst hh; rfl
  | c :: l, u :: us, m, ⟨h1, h2⟩, hh => by
    unfold u8i at hh
    split at hh
    · rename_i heq; cases heq
    · rename_i n l' heq
      cases heq
      split at hh
      · rename_i m' hm
        simp at hh
        subst hh
        rw [h1.1, u8i_eq h2 hm]
        rfl
      · cases hh
    · rename_i n l' heq
      cases heq
      cases hd : decide (R.Val.k n = .u8) with
      | false => rw [hd] at hh; cases hh
      | true =>
        rw [hd] at hh
        have hk := of_decide_eq_true hd
        simp only [cond_true] at hh
        split at hh
        · rename_i m' hm
          simp at hh
          subst hh
          have e : u = .int (R.Val.k n) (R.Val.n n) := h1
          rw [e, hk, u8i_eq h2 hm]
          rfl
        · cases hh
    · cases hh
def sumGood (xs : List R.AV) (h : R.Hp) : Option (List (R.AV × R.Hp)) :=
  match xs with
  | [.v (.a (.x (.bool v) :: l))] => (match u8i l with
    | some (a :: b :: c :: d :: r) => cond (Nat.beq r.length 12) (some [(R.boolA (goodA v r), h)]) none
    | _ => none)
  | _ => none
theorem sumGood_eq {xs : List R.AV} {h : R.Hp} {L : List (R.AV × R.Hp)} (hs : sumGood xs h = some L) : ∃ v l a b c d r, xs = [.v (.a (.x (.bool v) :: l))] ∧ u8i l = some (a :: b :: c :: d :: r) ∧ r.length = 12 ∧ L = [(R.boolA (goodA v r), h)] := by
  unfold sumGood at hs
  split at hs
  · rename_i v l
    split at hs
    · rename_i a b c d r hu
      cases hb : Nat.beq r.length 12 with
      | false => rw [hb] at hs; cases hs
      | true =>
        rw [hb] at hs
        simp at hs
        exact ⟨v, l, a, b, c, d, r, rfl, hu, Nat.eq_of_beq_eq_true hb, hs.symm⟩
    · cases hs
  · cases hs
def sumCmp (xs : List R.AV) (h : R.Hp) : Option (List (R.AV × R.Hp)) :=
  match xs with
  | [.v (.a (.x (.bool false) :: l)), .v (.a (.x (.bool false) :: l'))] => (match u8i l, u8i l' with
    | some (a :: b :: c :: d :: r), some (a' :: b' :: c' :: d' :: r') => cond (Nat.beq r.length 12 && Nat.beq r'.length 12) (some [(.v (.c (.x (.int .i64 (Lib.compareBytes (strOfNums [a, b, c, d]).data.toList (strOfNums [a', b', c', d']).data.toList)))), h)]) none
    | _, _ => none)
  | _ => none
theorem sumCmp_eq {xs : List R.AV} {h : R.Hp} {L : List (R.AV × R.Hp)} (hs : sumCmp xs h = some L) : ∃ l a b c d r l' a' b' c' d' r', xs = [.v (.a (.x (.bool false) :: l)), .v (.a (.x (.bool false) :: l'))] ∧ u8i l = some (a :: b :: c :: d :: r) ∧ u8i l' = some (a' :: b' :: c' :: d' :: r') ∧ r.length = 12 ∧ r'.length = 12 ∧
    L = [(.v (.c (.x (.int .i64 (Lib.compareBytes (strOfNums [a, b, c, d]).data.toList (strOfNums [a', b', c', d']).data.toList)))), h)] := by
  unfold sumCmp at hs
  split at hs
  · rename_i l l'
    split at hs
    · rename_i a b c d r a' b' c' d' r' hu hu'
      cases hb : (Nat.beq r.length 12 && Nat.beq r'.length 12) with
      | false => rw [hb] at hs; cases hs
      | true =>
        rw [hb] at hs
        simp at hs
        rw [Bool.and_eq_true] at hb
        exact ⟨l, a, b, c, d, r, l', a', b', c', d', r', rfl, hu, hu', Nat.eq_of_beq_eq_true hb.1, Nat.eq_of_beq_eq_true hb.2, hs.symm⟩
    · cases hs
  · cases hs
def EXY : R.Env := ⟨extL, fun g xs h => cond (Nat.beq g 26) (sumGood xs h) (cond (Nat.beq g 78) (sumCmp xs h) (EXS.S g xs h))⟩
theorem exy_ok : R.EOk Tryz.prog EXY := by
  refine ⟨ext_ok.x, fun w0 g xs h L hs => ?_⟩
  have hs' : cond (Nat.beq g 26) (sumGood xs h) (cond (Nat.beq g 78) (sumCmp xs h) (EXS.S g xs h)) = some L := hs
  cases hb : Nat.beq g 26 with
  | true =>
    rw [hb] at hs'
    obtain rfl := Nat.eq_of_beq_eq_true hb
    obtain ⟨v, l, a, b, c, d, r, rfl, hu, hr, rfl⟩ := sumGood_eq hs'
    refine ⟨good_fn, fun i us w hl hR => ?_⟩
    obtain ⟨us⟩ := us
    match us, hl with
    | [u], ⟨⟨⟨zs⟩, e1, h1⟩, _⟩ =>
      match zs, h1 with
      | z :: zs, ⟨h2, h3⟩ =>
        have e2 : z = .bool v := h2.1
        have e3 := u8i_eq h3 hu
        have e4 : u = .agg (adrC v (a :: b :: c :: d :: r)).toArray := by rw [e1, e2, e3]; rfl
        subst e4
        refine callsIn_wide.2 ((Good_any v a b c d r hr w).mono fun e w' he => ?_)
        obtain ⟨rfl, hm⟩ := he
        exact ⟨_, List.mem_singleton.2 rfl, i, _, rfl, R.Le.refl i, R.boolA_eq _, hR.calm hm⟩
  | false =>
    rw [hb] at hs'
    cases hb2 : Nat.beq g 78 with
    | false => rw [hb2] at hs'; exact exs_ok.s w0 g xs h L hs'
    | true =>
      rw [hb2] at hs'
      obtain rfl := Nat.eq_of_beq_eq_true hb2
      obtain ⟨l, a, b, c, d, r, l', a', b', c', d', r', rfl, hu, hu', hr, hr', rfl⟩ := sumCmp_eq hs'
      refine ⟨cmp_fn, fun i us w hl hR => ?_⟩
      obtain ⟨us⟩ := us
      match us, hl with
      | [u, u'], ⟨⟨⟨zs⟩, e1, h1⟩, ⟨⟨zs'⟩, e1', h1'⟩, _⟩ =>
        match zs, zs', h1, h1' with
        | z :: zs, z' :: zs', ⟨h2, h3⟩, ⟨h2', h3'⟩ =>
          have e2 : z = .bool false := h2.1
          have e2' : z' = .bool false := h2'.1
          have e3 := u8i_eq h3 hu
          have e3' := u8i_eq h3' hu'
          have e4 : u = .agg (adrC false (a :: b :: c :: d :: r)).toArray := by rw [e1, e2, e3]; rfl
          have e4' : u' = .agg (adrC false (a' :: b' :: c' :: d' :: r')).toArray := by rw [e1', e2', e3']; rfl
          subst e4 e4'
          refine callsIn_wide.2 ((Cmp4 a b c d a' b' c' d' r r' hr hr' w).mono fun e w' he => ?_)
          obtain ⟨rfl, hm⟩ := he
          exact ⟨_, List.mem_singleton.2 rfl, i, _, rfl, R.Le.refl i, ⟨rfl, rfl⟩, hR.calm hm⟩
end Go.Proofs.YtpganoppepmjjaaGreat
