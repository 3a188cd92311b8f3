/- A run's operations together: those that only compute, those that read, those that write; and that what they yield is one. -/
import Derived.Test.YtcccdlmngddalaaGreatRun6
set_option linter.unusedVariables false
set_option linter.unusedSimpArgs false
set_option linter.unusedSectionVars false
namespace Go.Proofs.YtcccdlmngddalaaGreat
open Go.RowKit
namespace R
variable [vl : Val]
section
variable {P : Program} {w0 : Base} {i : Inj} {h : Hp} {w : World}
/- what computes, of values that are the same on both sides -/
def pval (t : Tri AV) (x : Operand) : Option Value := match ev t x with | some y => plain y | none => none
def pvalD (t : Tri AV) (x : Operand) : Value := match pval t x with | some v => v | none => undef
def allP (t : Tri AV) : List Operand → Bool
  | [] => true
  | x :: l => match pval t x with | some _ => allP t l | none => false
theorem allP_eq {t : Tri AV} {l : List Operand} (hh : allP t l = true) : ∀ x ∈ l, ∃ v, pval t x = some v := by
  induction l with
  | nil => simp
  | cons x l ih =>
    simp only [allP] at hh
    split at hh
    · rename_i v hv
      intro y hy
      rcases List.mem_cons.1 hy with rfl | hy
      · exact ⟨v, hv⟩
      · exact ih hh y hy
    · cases hh
def apure (P : Program) (t : Tri AV) (o : Oper) : Option AV :=
  gd (allP t o.op.operands.toList) (match pv P (execOp (pvalD t) o) with
    | some (.value v) => wAV v fun x => some x
    | _ => none)
theorem apure_eq {t : T} {a : Act} {o : Oper} {x : AV} (hs : ∀ cs b, o.op ≠ .select cs b) (hT : TR i t a) (ha : apure P t.m o = some x) : ∃ v, (∀ w, (execOp a.eval o).run P w = .ok (.value v) w) ∧ AR i x v := by
  unfold apure at ha
  rw [gd_eq] at ha
  obtain ⟨h1, ha⟩ := ha
  split at ha
  · rename_i v hv
    obtain ⟨y, h2, h3⟩ := wAV_eq ha
    simp at h2
    subst h2
    refine ⟨v, fun w => ?_, h3 i⟩
    rw [execOp_congr (ρ := a.eval) (ρ' := pvalD t.m) o hs fun x hx => ?_]
    · exact pv_run w hv
    · obtain ⟨u, hu⟩ := allP_eq h1 x (by simpa using hx)
      unfold pvalD
      rw [hu]
      unfold pval at hu
      split at hu
      · rename_i y hy
        exact plain_eq hu (ev_eq hT hy)
      · cases hu
  · cases ha
theorem ex_builtin {ρ : Operand → Value} {o : Oper} {b : Builtin} {args : Array Operand} {ats : Array TypeId} (ho : o.op = .call { callee := .builtin b, args, argTypes := ats }) : ∃ cs, execOp ρ o = builtin b ats o.type cs (args.map ρ) :=
  ⟨_, by simp only [execOp, ho]; rfl⟩
def evl (t : Tri AV) : List Operand → Option (List AV)
  | [] => some []
  | x :: l => match ev t x with | none => none | some y => match evl t l with | none => none | some m => some (y :: m)
theorem evl_eq {t : T} {a : Act} (hT : TR i t a) : ∀ {l : List Operand} {m : List AV}, evl t.m l = some m → LR (AR i) m (l.map a.eval)
  | [], m, hh => by simp [evl] at hh; subst hh; trivial
  | x :: l, m, hh => by
    simp only [evl] at hh
    split at hh
    · cases hh
    · rename_i y hy
      split at hh
      · cases hh
      · rename_i m' hm
        simp at hh
        subst hh
        exact ⟨ev_eq hT hy, evl_eq hT hm⟩
def boolA (b : Bool) : AV := cond b (.v (.c (.x (.bool true)))) (.v (.c (.x (.bool false))))
theorem boolA_eq (b : Bool) : AR i (boolA b) (.bool b) := by cases b <;> exact ⟨rfl, rfl⟩
def evo (t : Tri AV) : Option Operand → Option (Option AV)
  | none => some none
  | some x => match ev t x with | some y => some (some y) | none => none
theorem evo_eq {t : T} {a : Act} (hT : TR i t a) {x : Option Operand} {y : Option AV} (hh : evo t.m x = some y) : (∀ z, y = some z → ∃ v, x.map a.eval = some v ∧ AR i z v) ∧ (y = none → x.map a.eval = none) := by
  cases x with
  | none => simp [evo] at hh; subst hh; simp
  | some x =>
    simp only [evo] at hh
    split at hh
    · rename_i z hz
      simp at hh
      subst hh
      exact ⟨fun z' hz' => ⟨_, rfl, by cases hz'; exact ev_eq hT hz⟩, fun hn => by cases hn⟩
    · cases hh
def isStr : AV → Bool
  | .v (.c (.x _)) => true
  | _ => false
def factOf (op : BinOp) (s : Bool) (m : Int) : List (BinOp × Bool × Int × Value) → Option AV
  | [] => none
  | f :: l => cond (decide (f.1 = op) && (cond s f.2.1 (not f.2.1) && decide (f.2.2.1 = m))) (some (.v (.c (.x f.2.2.2)))) (factOf op s m l)
def fact2 (op : BinOp) : AV → AV → Option AV
  | .v (.c (.q a)), .v (.c (.x (.int q m))) => cond (decide (Val.k a = q)) (factOf op false m (Val.fs a)) none
  | .v (.c (.x (.int q m))), .v (.c (.q a)) => cond (decide (Val.k a = q)) (factOf op true m (Val.fs a)) none
  | _, _ => none
def afree (P : Program) (t : Tri AV) (o : Oper) : Option AV :=
  match o.op with
  | .move x => ev t x
  | .assign x => ev t x
  | .pick c a b => (match ev t c with | some (.v (.c (.x (.bool q)))) => cond q (ev t a) (ev t b) | _ => none)
  | .nilCheck x => (match ev t x with
    | some (.v (.c (.p b o))) => some (.v (.c (.p b o)))
    | some (.v (.c (.f g fs cs))) => some (.v (.c (.f g fs cs)))
    | _ => apure P t o)
  | .fieldAddr s x f => (match ev t x with | some (.v (.c (.p b o))) => aFieldAddr P s b o f | _ => none)
  | .indexAddr ty x ix => (match ev t x, ev t ix with
    | some x, some ix => (match natOf ix with | some j => aIndexAddr P ty x j | none => none)
    | _, _ => none)
  | .binOp op ty x y _ => (match ev t x, ev t y with
    | some p, some q => (match fact2 op p q with
      | some r => some r
      | none => (match plain p, plain q with
        | some _, some _ => apure P t o
        | _, _ => (match aNil P ty p q with
          | some r => (match op with | .eql => some (boolA r) | .neq => some (boolA (not r)) | _ => none)
          | none => none)))
    | _, _ => none)
  | .unOp _ _ _ => apure P t o
  | .convert _ _ _ => apure P t o
  | .field ty x f => (match ev t x with | some y => aField P ty y f | none => none)
  | .index ty x ix => (match ev t x, ev t ix with
    | some y, some ix => cond (isStr y) (apure P t o) (match natOf ix with | some j => aIndex P ty y j | none => none)
    | _, _ => none)
  | .extract x j => (match ev t x with | some y => aExtract y j | none => none)
  | .slice ty x lo hi mx => (match ev t x, evo t lo, evo t hi, evo t mx with
    | some y, some lo, some hi, some mx => cond (isStr y) (apure P t o) (aSlice P ty y lo hi mx)
    | _, _, _, _ => none)
  | .build ty ps => (match evs t ps.toList with | some qs => aBuild P ty qs | none => none)
  | .makeFunc (.func g) first captured => (match evl t first.toList, evl t captured.toList with
    | some k, some l => (match capOf k, capOf l with | some fs, some cs => some (.v (.c (.f g fs cs))) | _, _ => none)
    | _, _ => none)
  | .call c => (match c.callee with
    | .builtin .len => (match evl t c.args.toList, c.argTypes.toList with
      | some [.v (.c (.s _ _ n _ _ _))], ty :: _ => (match P.underlying ty with | some (.slice _) => some (.v (.c (.x (.int .i64 (.ofNat n))))) | _ => none)
      | some [_], _ => apure P t o
      | _, _ => none)
    | .builtin .min => apure P t o
    | .builtin .max => apure P t o
    | .builtin .cap => (match evl t c.args.toList, c.argTypes.toList with
      | some [.v (.c (.s _ _ _ c _ true))], ty :: _ => (match P.underlying ty with | some (.slice _) => some (.v (.c (.x (.int .i64 (.ofNat c))))) | _ => none)
      | some [_], _ => apure P t o
      | _, _ => none)
    | _ => none)
  | _ => none
theorem factOf_eq {op : BinOp} {s : Bool} {m : Int} {k : IntKind} {n : Int} {x : AV} : ∀ {fs : List (BinOp × Bool × Int × Value)}, (∀ f ∈ fs, FactOk k n f) → factOf op s m fs = some x →
    ∃ r, x = .v (.c (.x r)) ∧ r.oneCell' = true ∧ ∀ (P : Program) (ty : TypeId) (w : World), (cond s (binOp op ty (.int k m) (.int k n)) (binOp op ty (.int k n) (.int k m))).run P w = .ok r w
  | [], _, h => by simp [factOf] at h
  | f :: l, hf, h => by
    unfold factOf at h
    cases hc : (decide (f.1 = op) && (cond s f.2.1 (not f.2.1) && decide (f.2.2.1 = m))) with
    | false => rw [hc] at h; exact factOf_eq (fun g hg => hf g (List.mem_cons_of_mem _ hg)) h
    | true =>
      rw [hc] at h
      simp at h
      obtain ⟨h1, h2⟩ := hf f List.mem_cons_self
      simp only [Bool.and_eq_true, decide_eq_true_eq] at hc
      obtain ⟨e1, e2, e3⟩ := hc
      refine ⟨_, h.symm, h1, fun P ty w => ?_⟩
      have := h2 P ty w
      rw [e1, e3] at this
      cases s with
      | true => have e4 : f.2.1 = true := e2; rw [e4] at this; exact this
      | false => have e4 : f.2.1 = false := by simpa using e2
                 rw [e4] at this; exact this
theorem fact2_eq {op : BinOp} {p q x : AV} {i : Inj} {u v : Value} (hp : AR i p u) (hq : AR i q v) (h : fact2 op p q = some x) :
    ∃ r, AR i x r ∧ (∀ (P : Program) (ty : TypeId) (w : World), (binOp op ty u v).run P w = .ok r w) ∧ ∀ (P : Program) (ty : TypeId) (a b : Operand) (w : World), (eqGuard op ty a b u v).run P w = .ok () w := by
  have guard : ∀ (k1 k2 : IntKind) (a1 a2 : Int) (P : Program) (ty : TypeId) (a b : Operand) (w : World), (eqGuard op ty a b (.int k1 a1) (.int k2 a2)).run P w = .ok () w := by
    intro k1 k2 a1 a2 P ty a b w
    unfold eqGuard
    split <;> rfl
  unfold fact2 at h
  split at h
  · rename_i a q' m
    cases hd : decide (Val.k a = q') with
    | false => rw [hd] at h; cases h
    | true =>
      rw [hd] at h
      obtain rfl := of_decide_eq_true hd
      obtain ⟨r, rfl, h1, h2⟩ := factOf_eq (Val.ok a) h
      have e1 : u = .int (Val.k a) (Val.n a) := hp
      have e2 : v = .int (Val.k a) m := hq.1
      subst e1 e2
      exact ⟨r, ⟨rfl, h1⟩, fun P ty w => h2 P ty w, guard _ _ _ _⟩
  · rename_i q' m a
    cases hd : decide (Val.k a = q') with
    | false => rw [hd] at h; cases h
    | true =>
      rw [hd] at h
      obtain rfl := of_decide_eq_true hd
      obtain ⟨r, rfl, h1, h2⟩ := factOf_eq (Val.ok a) h
      have e1 : v = .int (Val.k a) (Val.n a) := hq
      have e2 : u = .int (Val.k a) m := hp.1
      subst e1 e2
      exact ⟨r, ⟨rfl, h1⟩, fun P ty w => h2 P ty w, guard _ _ _ _⟩
  · cases h
theorem afree_eq {t : T} {a : Act} {o : Oper} {x : AV} (hT : TR i t a) (ha : afree P t.m o = some x) : ∃ v, (∀ w, (execOp a.eval o).run P w = .ok (.value v) w) ∧ AR i x v := by
  unfold afree at ha
  split at ha
  · rename_i y ho; exact ⟨_, fun w => by simp only [execOp, ho]; rfl, ev_eq hT ha⟩
  · rename_i y ho; exact ⟨_, fun w => by simp only [execOp, ho]; rfl, ev_eq hT ha⟩
  · rename_i c y z ho
    split at ha
    · rename_i q hq
      have hb := (ev_eq hT hq).1
      cases q with
      | true => exact ⟨_, fun w => by simp [execOp, ho, asBool, hb], ev_eq hT ha⟩
      | false => exact ⟨_, fun w => by simp [execOp, ho, asBool, hb], ev_eq hT ha⟩
    · cases ha
  · rename_i y ho
    split at ha
    · rename_i b oo hy
      simp at ha
      subst ha
      obtain ⟨k, N, h1, h2⟩ := ev_eq hT hy
      exact ⟨_, fun w => by simp only [execOp, ho, h2]; rfl, k, N, h1, rfl⟩
    · rename_i g fs cs hy
      simp at ha
      subst ha
      obtain ⟨vs, us, h1, h2⟩ := ev_eq hT hy
      exact ⟨_, fun w => by simp only [execOp, ho, h1]; rfl, vs, us, rfl, h2⟩
    · exact apure_eq (by rw [ho]; simp) hT ha
  · rename_i s y f ho
    split at ha
    · rename_i b oo hy
      obtain ⟨k, N, h1, h2⟩ := ev_eq hT hy
      obtain ⟨v, h3, h4⟩ := aFieldAddr_eq h1 ha
      exact ⟨v, fun w => by simp [execOp, ho, h2, h3 w], h4⟩
    · cases ha
  · rename_i ty y ix ho
    split at ha
    · rename_i p q hp hq
      split at ha
      · rename_i j hj
        obtain ⟨k, hk⟩ := natOf_eq hj (ev_eq hT hq)
        obtain ⟨v, h3, h4⟩ := aIndexAddr_eq (q := k) (ev_eq hT hp) ha
        exact ⟨v, fun w => by simp [execOp, ho, hk, h3 w], h4⟩
      · cases ha
    · cases ha
  · rename_i op ty y z yt ho
    split at ha
    · rename_i p q hp hq
      split at ha
      · rename_i r hr
        simp at ha
        subst ha
        obtain ⟨v, h1, h2, h3⟩ := fact2_eq (ev_eq hT hp) (ev_eq hT hq) hr
        exact ⟨v, fun w => by simp [execOp, ho, h2, h3], h1⟩
      split at ha
      · exact apure_eq (by rw [ho]; simp) hT ha
      · split at ha
        · rename_i r hr
          have hnil := aNil_eq (P := P) (ev_eq hT hp) (ev_eq hT hq) hr
          split at ha
          · simp at ha
            subst ha
            exact ⟨_, fun w => by simp [execOp, ho, (hnil w).1, (hnil w).2.2], boolA_eq r⟩
          · simp at ha
            subst ha
            exact ⟨_, fun w => by simp [execOp, ho, (hnil w).2.1, (hnil w).2.2], boolA_eq (!r)⟩
          · cases ha
        · cases ha
    · cases ha
  · rename_i ho; exact apure_eq (by rw [ho]; simp) hT ha
  · rename_i ho; exact apure_eq (by rw [ho]; simp) hT ha
  · rename_i ty y f ho
    split at ha
    · rename_i p hp
      obtain ⟨v, h3, h4⟩ := aField_eq (ev_eq hT hp) ha
      exact ⟨v, fun w => by simp [execOp, ho, h3 w], h4⟩
    · cases ha
  · rename_i ty y ix ho
    split at ha
    · rename_i p q hp hq
      cases hst : isStr p with
      | true => rw [hst] at ha; exact apure_eq (by rw [ho]; simp) hT ha
      | false =>
        rw [hst] at ha
        simp only [cond_false] at ha
        split at ha
        · rename_i j hj
          obtain ⟨k, hk⟩ := natOf_eq hj (ev_eq hT hq)
          obtain ⟨v, h3, h4⟩ := aIndex_eq (q := k) (ev_eq hT hp) ha
          exact ⟨v, fun w => by simp [execOp, ho, hk, h3 w], h4⟩
        · cases ha
    · cases ha
  · rename_i y j ho
    split at ha
    · rename_i p hp
      obtain ⟨v, h3, h4⟩ := aExtract_eq (P := P) (ev_eq hT hp) ha
      exact ⟨v, fun w => by simp [execOp, ho, h3 w], h4⟩
    · cases ha
  · rename_i ty y lo hi mx ho
    split at ha
    · rename_i p l r m hp hl hr hm
      cases hst : isStr p with
      | true => rw [hst] at ha; exact apure_eq (by rw [ho]; simp) hT ha
      | false =>
        rw [hst] at ha
        obtain ⟨l1, l2⟩ := evo_eq hT hl
        obtain ⟨r1, r2⟩ := evo_eq hT hr
        obtain ⟨m1, m2⟩ := evo_eq hT hm
        obtain ⟨v, h3, h4⟩ := aSlice_eq (ev_eq hT hp) l1 l2 r1 r2 m1 m2 ha
        exact ⟨v, fun w => by simp [execOp, ho, h3 w], h4⟩
    · cases ha
  · rename_i ty ps ho
    split at ha
    · rename_i qs hqs
      obtain ⟨v, h3, h4⟩ := aBuild_eq (qs := ps.map fun (k, x) => (k, a.eval x)) (by simpa using evs_eq (fun x y => ev_eq hT) _ _ hqs) ha
      exact ⟨v, fun w => by simp only [execOp, ho, Sem.run_bind, h3 w, Result.andThen_ok, Sem.run_pure], h4⟩
    · cases ha
  · rename_i g first captured ho
    split at ha
    · rename_i k l hk hl
      split at ha
      · rename_i fs cs hfs hcs
        simp at ha
        subst ha
        exact ⟨.func (.func g) (first.map a.eval) (captured.map a.eval), fun w => by simp [execOp, ho, Instr.makeFunc], _, _, rfl, by simpa using capOf_eq (evl_eq hT hk) hfs, by simpa using capOf_eq (evl_eq hT hl) hcs⟩
      · cases ha
    · cases ha
  · rename_i c ho
    obtain ⟨cal, args, ats⟩ := c
    split at ha
    · rename_i hc
      dsimp only at hc
      subst hc
      obtain ⟨cs, hex⟩ := ex_builtin (ρ := a.eval) ho
      split at ha
      · rename_i b oo n c z ex ty rest hl hat
        split at ha
        · rename_i e hd
          simp at ha
          subst ha
          have hL := evl_eq hT hl
          obtain ⟨args⟩ := args
          match args, hL with
          | [x], ⟨⟨k, N, c', h1, h2, _⟩, _⟩ =>
            have h0 : ats[0]? = some ty := by cases ats; simp_all
            exact ⟨.int .i64 (.ofNat n), fun w => by rw [hex]; simp [builtin, Builtin.len_, h0, h2, run_underlying hd, goInt], rfl, rfl⟩
        · cases ha
      · exact apure_eq (by rw [ho]; simp) hT ha
      · cases ha
    · exact apure_eq (by rw [ho]; simp) hT ha
    · exact apure_eq (by rw [ho]; simp) hT ha
    · rename_i hc
      dsimp only at hc
      subst hc
      obtain ⟨cs, hex⟩ := ex_builtin (ρ := a.eval) ho
      split at ha
      · rename_i b oo n c z ty rest hl hat
        split at ha
        · rename_i e hd
          simp at ha
          subst ha
          have hL := evl_eq hT hl
          obtain ⟨args⟩ := args
          match args, hL with
          | [x], ⟨⟨k, N, c', h1, h2, _, _, _, h5, _⟩, _⟩ =>
            have h0 : ats[0]? = some ty := by cases ats; simp_all
            have h6 := h5 rfl
            subst h6
            exact ⟨.int .i64 (.ofNat c'), fun w => by rw [hex]; simp [builtin, Builtin.cap_, h0, h2, run_underlying hd, goInt], rfl, rfl⟩
        · cases ha
      · exact apure_eq (by rw [ho]; simp) hT ha
      · cases ha
    · cases ha
  · cases ha
/- what reads -/
def aread (P : Program) (t : Tri AV) (h : Hp) (o : Oper) : Option AV :=
  match o.op with
  | .load ty x => (match ev t x with | some (.v (.c (.p b o))) => aLoad P h ty b o | _ => none)
  | .lookup ty x k ok => (match ev t x, ev t k with | some x, some k => aLookup P h ty x k ok | _, _ => none)
  | .call c => (match c.callee with
    | .builtin .len => (match evl t c.args.toList with | some [x] => aLen P h c.argTypes.toList x | _ => none)
    | _ => none)
  | _ => none
theorem aread_eq {t : T} {a : Act} {o : Oper} {x : AV} (hT : TR i t a) (hR : Rel w0 i h.m.get h.n w) (ha : aread P t.m h o = some x) : ∃ v, (execOp a.eval o).run P w = .ok (.value v) w ∧ AR i x v := by
  unfold aread at ha
  split at ha
  · rename_i ty y ho
    split at ha
    · rename_i b oo hy
      obtain ⟨k, N, h1, h2⟩ := ev_eq hT hy
      obtain ⟨v, h3, h4⟩ := aLoad_eq (P := P) hR h1 ha
      exact ⟨v, by simp [execOp, ho, h2, Instr.loadAt, Instr.sureAddr, h3], h4⟩
    · cases ha
  · rename_i ty y k ok ho
    split at ha
    · rename_i p q hp hq
      obtain ⟨v, h3, h4⟩ := aLookup_eq (P := P) hR (ev_eq hT hp) (ev_eq hT hq) ha
      exact ⟨v, by simp [execOp, ho, h3], h4⟩
    · cases ha
  · rename_i c ho
    obtain ⟨cal, args, ats⟩ := c
    split at ha
    · rename_i hc
      dsimp only at hc
      subst hc
      obtain ⟨cs, hex⟩ := ex_builtin (ρ := a.eval) ho
      split at ha
      · rename_i y hl
        have hL := evl_eq hT hl
        obtain ⟨args⟩ := args
        match args, hL with
        | [z], ⟨h1, _⟩ =>
          obtain ⟨v, h3, h4⟩ := aLen_eq (P := P) (ty := o.type) hR h1 ha
          exact ⟨v, by rw [hex]; simp [builtin, h3], h4⟩
      · cases ha
    · cases ha
  · cases ha
/- what writes, or makes memory -/
def aeff (P : Program) (t : Tri AV) (h : Hp) (o : Oper) : Option (AV × Hp) :=
  match o.op with
  | .store ty x y => (match ev t x, ev t y with | some (.v (.c (.p b o))), some y => (match aStore P h ty b o y with | some h' => some (udf, h') | none => none) | _, _ => none)
  | .box e x => (match ev t x with | some y => aBox h e y | none => none)
  | .alloc e => aAlloc P h e
  | .buildSlice ty len ps => (match evs t ps.toList with | some qs => aBuildSlice P h ty len qs | none => none)
  | .makeMap _ none => aMakeMap h
  | .mapUpdate ty x k y => (match ev t x, ev t k, ev t y with | some x, some k, some y => (match aUpdate P h ty x k y with | some h' => some (udf, h') | none => none) | _, _, _ => none)
  | .insert ty x k y => (match ev t x, ev t k, ev t y with | some x, some k, some y => (match aUpdate P h ty x k y with | some h' => some (udf, h') | none => none) | _, _, _ => none)
  | .mapEntry ty x k => (match ev t x, ev t k with | some x, some k => aMapEntry P h ty x k | _, _ => none)
  | .entryStore _ x k y => (match ev t x, ev t k, ev t y with | some x, some k, some y => (match aMapEntrySet h x k y with | some h' => some (udf, h') | none => none) | _, _, _ => none)
  | .call c => (match c.callee with
    | .builtin .append => (match evl t c.args.toList with | some [s, x] => aAppend P h c.argTypes.toList s x | _ => none)
    | .builtin .delete => (match evl t c.args.toList with | some [x, k] => (match aDelete P h c.argTypes.toList x k with | some h' => some (udf, h') | none => none) | _ => none)
    | _ => none)
  | _ => none
theorem aeff_eq {t : T} {a : Act} {o : Oper} {x : AV} {h' : Hp} (hT : TR i t a) (hR : Rel w0 i h.m.get h.n w) (ha : aeff P t.m h o = some (x, h')) : Ran P w0 (execOp a.eval o) i w x h' := by
  unfold aeff at ha
  split at ha
  · rename_i ty y z ho
    split at ha
    · rename_i b oo q hy hz
      split at ha
      · rename_i h1 hst
        simp at ha
        obtain ⟨rfl, rfl⟩ := ha
        obtain ⟨k, N, h1, h2⟩ := ev_eq hT hy
        obtain ⟨w', h3, h4⟩ := aStore_eq (P := P) hR h1 (ev_eq hT hz) hst
        exact ⟨i, .skip, w', by simp [execOp, ho, h2, Instr.storeAt, Instr.sureAddr, h3], Le.refl i, h4, .inr ⟨rfl, udf_eq i⟩⟩
      · cases ha
    · cases ha
  · rename_i e y ho
    split at ha
    · rename_i p hp
      simp only [execOp, ho]
      exact aBox_eq hR (ev_eq hT hp) ha
    · cases ha
  · rename_i e ho
    simp only [execOp, ho]
    exact aAlloc_eq hR ha
  · rename_i ty len ps ho
    split at ha
    · rename_i qs hqs
      simp only [execOp, ho]
      exact aBuildSlice_eq hR (by simpa using evs_eq (fun x y => ev_eq hT) _ _ hqs) ha
    · cases ha
  · rename_i ty ho
    simp only [execOp, ho]
    exact aMakeMap_eq hR ha
  · rename_i ty y k z ho
    split at ha
    · rename_i p q r hp hq hr
      split at ha
      · rename_i h1 hst
        simp at ha
        obtain ⟨rfl, rfl⟩ := ha
        obtain ⟨w', h3, h4⟩ := aUpdate_eq (P := P) hR (ev_eq hT hp) (ev_eq hT hq) (ev_eq hT hr) hst
        exact ⟨i, .skip, w', by simp [execOp, ho, h3], Le.refl i, h4, .inr ⟨rfl, udf_eq i⟩⟩
      · cases ha
    · cases ha
  · rename_i ty y k z ho
    split at ha
    · rename_i p q r hp hq hr
      split at ha
      · rename_i h1 hst
        simp at ha
        obtain ⟨rfl, rfl⟩ := ha
        obtain ⟨w', h3, h4⟩ := aUpdate_eq (P := P) hR (ev_eq hT hp) (ev_eq hT hq) (ev_eq hT hr) hst
        exact ⟨i, .skip, w', by simp [execOp, ho, h3], Le.refl i, h4, .inr ⟨rfl, udf_eq i⟩⟩
      · cases ha
    · cases ha
  · rename_i ty y k ho
    split at ha
    · rename_i p q hp hq
      obtain ⟨v, w', h3, h4, h5⟩ := aMapEntry_eq (P := P) hR (ev_eq hT hp) (ev_eq hT hq) ha
      simp only [execOp, ho]
      exact Ran.val h3 (Le.refl i) h5 h4
    · cases ha
  · rename_i ty y k z ho
    split at ha
    · rename_i p q r hp hq hr
      split at ha
      · rename_i h1 hst
        simp at ha
        obtain ⟨rfl, rfl⟩ := ha
        obtain ⟨w', h3, h4⟩ := aMapEntrySet_eq (P := P) (t := ty) hR (ev_eq hT hp) (ev_eq hT hq) (ev_eq hT hr) hst
        exact ⟨i, .skip, w', by simp [execOp, ho, h3], Le.refl i, h4, .inr ⟨rfl, udf_eq i⟩⟩
      · cases ha
    · cases ha
  · rename_i c ho
    obtain ⟨cal, args, ats⟩ := c
    split at ha
    · rename_i hc
      dsimp only at hc
      subst hc
      obtain ⟨cs, hex⟩ := ex_builtin (ρ := a.eval) ho
      split at ha
      · rename_i s y hl
        have hL := evl_eq hT hl
        obtain ⟨args⟩ := args
        match args, hL with
        | [p, q], ⟨h1, h2, _⟩ =>
          rw [hex]
          have := aAppend_eq (P := P) (ty := o.type) hR h1 h2 ha
          simpa [builtin] using this
      · cases ha
    · rename_i hc
      dsimp only at hc
      subst hc
      obtain ⟨cs, hex⟩ := ex_builtin (ρ := a.eval) ho
      split at ha
      · rename_i y k hl
        split at ha
        · rename_i h1 hst
          simp at ha
          obtain ⟨rfl, rfl⟩ := ha
          have hL := evl_eq hT hl
          obtain ⟨args⟩ := args
          match args, hL with
          | [p, q], ⟨h1, h2, _⟩ =>
            obtain ⟨w', h3, h4⟩ := aDelete_eq (P := P) (ty := o.type) hR h1 h2 hst
            exact ⟨i, .value (.tuple #[]), w', by rw [hex]; simp [builtin, h3], Le.refl i, h4, .inl ⟨_, rfl, udf_eq i⟩⟩
        · cases ha
      · cases ha
    · cases ha
  · cases ha
end
end R
end Go.Proofs.YtcccdlmngddalaaGreat
