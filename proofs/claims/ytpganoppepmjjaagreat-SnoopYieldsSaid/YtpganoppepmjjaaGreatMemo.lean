/- A run in pieces: a call that was run by itself goes by what came of it. -/
import Derived.Test.YtpganoppepmjjaaGreatRunA
namespace Go.Proofs.YtpganoppepmjjaaGreat
open Go.RowKit
set_option linter.unusedVariables false
set_option linter.unusedSectionVars false
set_option linter.unusedSimpArgs false
namespace R
variable [vl : Val]
/- memory, brought to its last form -/
def wC {β : Type} (c : Cel) (k : Cel → Option β) : Option β := match c with
  | .x v => wVal v fun v => k (.x v)
  | .p b o => wNat b fun b => wNat o fun o => k (.p b o)
  | .s b o n c z ex => wNat b fun b => wNat o fun o => wNat n fun n => wNat c fun c => wNat z fun z => cond ex (k (.s b o n c z true)) (k (.s b o n c z false))
  | .m b => wNat b fun b => k (.m b)
  | c => k c
@[simp] theorem wC_eq {β : Type} (c : Cel) (k : Cel → Option β) : wC c k = k c := by
  cases c with
  | s b o n c z ex => cases ex <;> simp [wC]
  | _ => simp [wC]
def wCs {β : Type} : List Cel → (List Cel → Option β) → Option β
  | [], k => k []
  | c :: l, k => wC c fun c => wCs l fun l => k (c :: l)
@[simp] theorem wCs_eq {β : Type} (l : List Cel) (k : List Cel → Option β) : wCs l k = k l := by induction l generalizing k <;> simp_all [wCs]
def wV1 {β : Type} (x : V1) (k : V1 → Option β) : Option β := match x with
  | .c c => wC c fun c => k (.c c)
  | .a l => wCs l fun l => k (.a l)
@[simp] theorem wV1_eq {β : Type} (x : V1) (k : V1 → Option β) : wV1 x k = k x := by cases x <;> simp [wV1]
def wV1L {β : Type} : List V1 → (List V1 → Option β) → Option β
  | [], k => k []
  | c :: l, k => wV1 c fun c => wV1L l fun l => k (c :: l)
@[simp] theorem wV1L_eq {β : Type} (l : List V1) (k : List V1 → Option β) : wV1L l k = k l := by induction l generalizing k <;> simp_all [wV1L]
def wT : Tri Cel → Option (Tri Cel)
  | .e => some .e
  | .n l v r => match wT l with
    | some l => (match wT r with
      | some r => (match v with | some c => wC c fun c => some (.n l (some c) r) | none => some (.n l none r))
      | none => none)
    | none => none
theorem wT_eq : ∀ {t t' : Tri Cel}, wT t = some t' → t' = t
  | .e, t', h => by simp [wT] at h; exact h.symm
  | .n l v r, t', h => by
    simp only [wT] at h
    split at h
    · rename_i l' hl
      split at h
      · rename_i r' hr
        rw [wT_eq hl, wT_eq hr] at h
        cases v <;> simp at h <;> exact h.symm
      · cases h
    · cases h
def wEs {β : Type} : List (Value × V1 × Nat) → (List (Value × V1 × Nat) → Option β) → Option β
  | [], k => k []
  | e :: l, k => wVal e.1 fun a => wV1 e.2.1 fun b => wNat e.2.2 fun c => wEs l fun l => k ((a, b, c) :: l)
@[simp] theorem wEs_eq {β : Type} (l : List (Value × V1 × Nat)) (k : List (Value × V1 × Nat) → Option β) : wEs l k = k l := by induction l generalizing k <;> simp_all [wEs]
def wO : AO → Option AO
  | .c e t => (match wT t with | some t => wNat e fun e => some (.c e t) | none => none)
  | .m es c => wEs es fun es => wNat c fun c => some (.m es c)
  | .d => some .d
  | o => some o
theorem wO_eq {o o' : AO} (h : wO o = some o') : o' = o := by
  cases o with
  | c e t =>
    simp only [wO] at h
    split at h
    · rename_i t' ht
      simp at h
      rw [← h, wT_eq ht]
    · cases h
  | _ => simp [wO] at h; exact h.symm
def wM : Tri AO → Option (Tri AO)
  | .e => some .e
  | .n l v r => match wM l with
    | some l => (match wM r with
      | some r => (match v with
        | some c => (match wO c with | some c => some (.n l (some c) r) | none => none)
        | none => some (.n l none r))
      | none => none)
    | none => none
theorem wM_eq : ∀ {t t' : Tri AO}, wM t = some t' → t' = t
  | .e, t', h => by simp [wM] at h; exact h.symm
  | .n l v r, t', h => by
    simp only [wM] at h
    split at h
    · rename_i l' hl
      split at h
      · rename_i r' hr
        rw [wM_eq hl, wM_eq hr] at h
        split at h
        · rename_i c
          split at h
          · rename_i c' hc
            rw [wO_eq hc] at h
            simp at h
            exact h.symm
          · cases h
        · simp at h; exact h.symm
      · cases h
    · cases h
def wAV1 {β : Type} (x : AV) (k : AV → Option β) : Option β := match x with
  | .v x => wV1 x fun x => k (.v x)
  | .t l => wV1L l fun l => k (.t l)
@[simp] theorem wAV1_eq {β : Type} (x : AV) (k : AV → Option β) : wAV1 x k = k x := by cases x <;> simp [wAV1]
def wEnds : List (AV × Hp) → Option (List (AV × Hp))
  | [] => some []
  | r :: l => (match wM r.2.m with
    | some m => wNat r.2.n fun n => wAV1 r.1 fun x => (match wEnds l with | some l => some ((x, ⟨m, n⟩) :: l) | none => none)
    | none => none)
theorem wEnds_eq : ∀ {l l' : List (AV × Hp)}, wEnds l = some l' → l' = l
  | [], l', h => by simp [wEnds] at h; exact h
  | r :: l, l', h => by
    simp only [wEnds] at h
    split at h
    · rename_i m hm
      simp only [wNat_eq, wAV1_eq] at h
      split at h
      · rename_i l1 hl
        simp at h
        rw [← h, wM_eq hm, wEnds_eq hl]
      · cases h
    · cases h
/- texts of memory -/
def mk {α : Type} : List (Nat × α) → Tri α → Tri α
  | [], t => t
  | p :: l, t => mk l ((t.set 64 p.1 p.2).getD t)
def mkL {α : Type} : Nat → List α → Tri α → Tri α
  | _, [], t => t
  | i, x :: l, t => mkL (i + 1) l ((t.set 64 i x).getD t)
def tc (l : List Cel) : Tri Cel := mkL 0 l .e
/-- what came of a call -/
structure Memo where
  g : FuncId
  xs : List V1
  h : Hp
  L : List (AV × Hp)
def v1s : List AV → Option (List V1)
  | [] => some []
  | .v x :: l => (match v1s l with | some m => some (x :: m) | none => none)
  | _ => none
theorem v1s_eq : ∀ {xs : List AV} {l : List V1}, v1s xs = some l → xs = l.map .v
  | [], l, h => by simp [v1s] at h; subst h; rfl
  | .v x :: xs, l, h => by
    simp only [v1s] at h
    split at h
    · rename_i m hm
      simp at h
      subst h
      rw [v1s_eq hm]; rfl
    · cases h
  | .t _ :: _, _, h => by simp [v1s] at h
variable {P : Program}
/-- the call run by itself comes to these ends -/
def Memo.chk (P : Program) (E : Env) (n k : Nat) (m : Memo) : Bool :=
  match wM m.h.m with
  | some hm => (match acall P (crun P E n k) m.g (m.xs.map .v) ⟨hm, m.h.n⟩ with
    | some M => M.all fun r => m.L.any fun q => sim m.h.n q.2 r.2 q.1 r.1
    | none => false)
  | none => false
def Memo.S (m : Memo) (S : FuncId → List AV → Hp → Option (List (AV × Hp))) (g : FuncId) (xs : List AV) (h : Hp) : Option (List (AV × Hp)) :=
  cond (Nat.beq g m.g) (match v1s xs with
    | some l => cond (Nat.beq h.n m.h.n && sim h.n m.h h (.t m.xs) (.t l)) (wEnds m.L) (S g xs h)
    | none => S g xs h) (S g xs h)
theorem lr_v {i : Inj} : ∀ {l : List V1} {us : List Value}, LR (AR i) (l.map .v) us ↔ LR (V1R i) l us
  | [], [] => Iff.rfl
  | [], _ :: _ => Iff.rfl
  | _ :: _, [] => Iff.rfl
  | a :: l, u :: us => and_congr Iff.rfl lr_v
theorem Memo.ok {E E1 : Env} (hE : EOk P E) (hm : P.follows .mixedOrders = true) {n k : Nat} (hE1 : EOk P E1) (m : Memo) (hc : m.chk P E1 n k = true) : EOk P ⟨E.X, m.S E.S⟩ := by
  refine ⟨hE.x, fun w0 g xs h L hs => ?_⟩
  have hs' : m.S E.S g xs h = some L := hs
  unfold Memo.S at hs'
  cases hb : Nat.beq g m.g with
  | false => rw [hb] at hs'; exact hE.s w0 g xs h L hs'
  | true =>
    rw [hb] at hs'
    obtain rfl := Nat.eq_of_beq_eq_true hb
    simp only [cond_true] at hs'
    split at hs'
    · rename_i l hl
      cases hq : (Nat.beq h.n m.h.n && sim h.n m.h h (.t m.xs) (.t l)) with
      | false => rw [hq] at hs'; exact hE.s w0 _ xs h L hs'
      | true =>
        rw [hq] at hs'
        simp only [cond_true] at hs'
        obtain rfl := wEnds_eq hs'
        rw [Bool.and_eq_true] at hq
        obtain ⟨q1, q2⟩ := hq
        have q1 := Nat.eq_of_beq_eq_true q1
        unfold Memo.chk at hc
        split at hc
        · rename_i hm' hw
          obtain rfl := wM_eq hw
          split at hc
          · rename_i M hM
            constructor
            · have hM' := hM
              unfold acall at hM'
              split at hM'
              · rename_i fn c _ hg _; exact ⟨_, hg⟩
              · cases hM'
            · intro i us w hx hR
              have hx2 : LR (V1R i) l us.toList := by
                have e := v1s_eq hl
                rw [e] at hx
                exact lr_v.1 hx
              have hd : ∀ b y, i b = some y → b < h.n := hR.dom
              have hg : ∀ b, w0.gh b → b < h.n := fun b hb => (hR.gh b hb).1
              obtain ⟨j, g1, ⟨us', e2, hx3⟩, hR2⟩ := sim_eq q2 hd hg (Le.refl i) hR (u := .tuple us) (show AR i (.t l) (.tuple us) from ⟨us, rfl, hx2⟩)
              cases e2
              refine (acall_eq (crun_sound hE1 hm n k) hM (lr_v.2 hx3) hR2).mono fun e w' he => ?_
              obtain ⟨r, hr, j2, v, rfl, hj, hv, hR'⟩ := he
              have := List.all_eq_true.1 hc r hr
              obtain ⟨q, hq, hs⟩ := List.any_eq_true.1 this
              obtain ⟨j3, p1, p2, p3⟩ := sim_eq hs hR2.dom (fun b hb => (hR2.gh b hb).1) hj hR' hv
              exact ⟨q, hq, j3, v, rfl, g1.trans p1, p2, p3⟩
          · cases hc
        · cases hc
    · exact hE.s w0 _ xs h L hs'
end R
end Go.Proofs.YtpganoppepmjjaaGreat
