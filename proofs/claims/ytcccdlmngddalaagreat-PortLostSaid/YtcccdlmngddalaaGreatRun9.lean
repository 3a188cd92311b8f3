/- A run of code: regions, calls, loops; and what it says of the world. -/
import Derived.Test.YtcccdlmngddalaaGreatRunZ
import Derived.Defers
import Derived.RangeFuncRecord
import Derived.LoopNIn
set_option linter.unusedVariables false
set_option linter.unusedSimpArgs false
set_option linter.unusedSectionVars false
namespace Go.Proofs.YtcccdlmngddalaaGreat
open Go.RowKit
namespace R
variable [vl : Val]
/- several ends -/
def bindL {α β : Type} (l : List α) (f : α → Option (List β)) : Option (List β) :=
  match l with
  | [] => some []
  | [a] => f a
  | a :: b :: l => match f a with
    | none => none
    | some x => match bindL (b :: l) f with | none => none | some y => some (x ++ y)
theorem bindL_eq {α β : Type} : ∀ {l : List α} {f : α → Option (List β)} {L : List β}, bindL l f = some L → ∀ a ∈ l, ∃ x, f a = some x ∧ ∀ b ∈ x, b ∈ L
  | [], _, _, _, _, ha => by cases ha
  | [a], f, L, h, b, hb => by
    obtain rfl : b = a := by simpa using hb
    exact ⟨L, h, fun _ h => h⟩
  | a :: b :: l, f, L, h, c, hc => by
    unfold bindL at h
    split at h
    · cases h
    · rename_i x hx
      split at h
      · cases h
      · rename_i y hy
        simp at h
        subst h
        rcases List.mem_cons.1 hc with rfl | hc
        · exact ⟨x, hx, fun _ h => List.mem_append_left _ h⟩
        · obtain ⟨z, h1, h2⟩ := bindL_eq hy c hc
          exact ⟨z, h1, fun q hq => List.mem_append_right _ (h2 q hq)⟩
inductive Ex where
  | normal
  | ex (id : Nat)
  | ret
def exOf : Ex → Exit
  | .normal => .normal
  | .ex id => .exit id
  | .ret => .ret
abbrev Out := Ex × T × Hp
section
variable {P : Program} {w0 : Base}
def Fin (w0 : Base) (i : Inj) (L : List Out) : Exit → Act → World → Prop := fun e a w => ∃ r ∈ L, e = exOf r.1 ∧ ∃ j, Le i j ∧ TR j r.2.1 a ∧ Rel w0 j r.2.2.m.get r.2.2.n w
theorem Fin.mono {i j : Inj} {L M : List Out} (hi : Le i j) (hL : ∀ r ∈ L, r ∈ M) {e : Exit} {a : Act} {w : World} (h : Fin w0 j L e a w) : Fin w0 i M e a w := by
  obtain ⟨r, h1, h2, k, h3, h4⟩ := h
  exact ⟨r, hL r h1, h2, k, hi.trans h3, h4⟩
def FinN (w0 : Base) (i : Inj) (L : List (T × Hp)) : Exit → Act → World → Prop := fun e a w => e = .normal ∧ ∃ r ∈ L, ∃ j, Le i j ∧ TR j r.1 a ∧ Rel w0 j r.2.m.get r.2.n w
theorem FinN.mono {i j : Inj} {L M : List (T × Hp)} (hi : Le i j) (hL : ∀ r ∈ L, r ∈ M) {e : Exit} {a : Act} {w : World} (h : FinN w0 j L e a w) : FinN w0 i M e a w := by
  obtain ⟨h0, r, h1, k, h3, h4⟩ := h
  exact ⟨h0, r, hL r h1, k, hi.trans h3, h4⟩
abbrev Rec := Code → T → Hp → Option (List Out)
def plainO (ops : Array Oper) : Bool := ops.toList.all fun o => match o.op with | .defer _ => false | _ => true
def plainC : Code → Bool
  | .seq x y => plainC x && plainC y
  | .cond _ x y => plainC x && plainC y
  | .block _ c => plainC c
  | .loop c => plainC c
  | .region _ ops _ => plainO ops
  | .rangeFunc _ _ _ _ => false
  | _ => true
theorem sm_of {rd : Option Nat} {ops : Array Oper} (h : rd = none ∨ plainO ops = true) : Sm rd ops := by
  rcases h with rfl | h
  · exact fun _ _ _ _ => rfl
  · intro j o ho ρ
    refine Oper.semAt_eq rd ρ o fun c hc => ?_
    have := List.all_eq_true.1 h o (List.mem_of_getElem? (by simpa using ho))
    rw [hc] at this
    cases this
def Sound (P : Program) (rec : Rec) : Prop := ∀ (w0 : Base) c t h L, rec c t h = some L → ∀ rd, (rd = none ∨ plainC c = true) → ∀ i a w, TR i t a → Rel w0 i h.m.get h.n w → c.wpIn (FW rd) 0 P (Fin w0 i L) a w
theorem callsFW {f : FuncId} {args : Array Value} {w : World} {R : Ending → World → Prop} (h : CallsIn (FW none) 0 P f args w R) (rd : Option Nat) : CallsIn (FW rd) 0 P f args w R := h
theorem calls_FW {f : FuncId} {args : Array Value} {w : World} {R : Ending → World → Prop} (h : CallsIn (FW none) 0 P f args w R) : Calls P f args w R := callsIn_wide.1 (show CallsIn Fence.wide 0 P f args w R from h)
/- calls of functions -/
def fnOk (P : Program) (g : FuncId) : Option (Func × Code) :=
  match P.funcs[g]? with
  | some fn => (match fn.body with | some c => cond (fn.name == "runtime.NumGoroutine") none (some (fn, c)) | none => none)
  | none => none
theorem fnOk_eq {g : FuncId} {fn : Func} {c : Code} (h : fnOk P g = some (fn, c)) : P.funcs[g]? = some fn ∧ fn.body = some c ∧ (fn.name == "runtime.NumGoroutine") = false := by
  unfold fnOk at h
  split at h
  · rename_i fn' hf
    split at h
    · rename_i c' hc
      cases hn : (fn'.name == "runtime.NumGoroutine") with
      | true => simp [hn] at h
      | false => simp [hn] at h; obtain ⟨rfl, rfl⟩ := h; exact ⟨hf, hc, hn⟩
    · cases h
  · cases h
def capA : Cap → AV
  | .x v => .v (.c (.x v))
  | .p b o => .v (.c (.p b o))
theorem capA_eq {i : Inj} : ∀ {l : List Cap} {us : List Value}, LR (CapR i) l us → LR (AR i) (l.map capA) us
  | [], [], _ => trivial
  | c :: l, u :: us, ⟨h1, h2⟩ => ⟨by cases c <;> exact h1, capA_eq h2⟩
def calleeC (t : Tri AV) (c : Call) : Option (FuncId × List AV) :=
  match c.callee with
  | .value f => (match ev t f, evl t c.args.toList with
    | some (.v (.c (.x (.func (.func g) fst cap)))), some xs => gd (Nat.beq fst.size 0 && Nat.beq cap.size 0) (some (g, xs))
    | some (.v (.c (.f g fs cs))), some xs => some (g, fs.map capA ++ xs ++ cs.map capA)
    | _, _ => none)
  | _ => none
def callee (t : Tri AV) (o : Oper) : Option (FuncId × List AV) := match o.op with | .call c => calleeC t c | _ => none
def odef (t : Tri AV) (o : Oper) : Option DA := match o.op with | .defer c => (match calleeC t c with | some (g, xs) => some (.f g xs) | none => none) | _ => none
theorem callFunc_run {g : FuncId} {fn : Func} {c : Code} (h : fnOk P g = some (fn, c)) (args : Array Value) (w : World) : (callFunc g args).run P w = .ok (.enter g args) w := by
  obtain ⟨h1, h2, h3⟩ := fnOk_eq h
  have h3' : ¬ (fn.name = "runtime.NumGoroutine") := by simpa using h3
  simp [callFunc, program, Sem.run, h1, h3', h2]
theorem calleeC_eq {i : Inj} {t : T} {a : Act} {c : Call} {ty : TypeId} {g : FuncId} {xs : List AV} (hT : TR i t a) (h : calleeC t.m c = some (g, xs)) :
    ∃ caps args : Array Value, resolve a.eval c ty = pure { target := .fn (.func g) caps, args := args } ∧ LR (AR i) xs (args ++ caps).toList := by
  unfold calleeC at h
  obtain ⟨cal, args, ats⟩ := c
  split at h
  · rename_i f hc
    dsimp only at hc
    subst hc
    split at h
    · rename_i g' fst cap ys' hf hys
      simp only [gd_eq, Bool.and_eq_true] at h
      obtain ⟨⟨h1, h2⟩, h⟩ := h
      simp at h
      obtain ⟨rfl, rfl⟩ := h
      have h1 := beq_of h1
      have h2 := beq_of h2
      obtain rfl : fst = #[] := by simpa using h1
      obtain rfl : cap = #[] := by simpa using h2
      have hv := (ev_eq hT hf).1
      exact ⟨#[], args.map a.eval, by simp [resolve, hv, Deferred.ofValue], by simpa using evl_eq hT hys⟩
    · rename_i g' fs cs ys' hf hys
      simp only [Option.some.injEq, Prod.mk.injEq] at h
      obtain ⟨rfl, rfl⟩ := h
      obtain ⟨vs, us, hv, hvs, hus⟩ := ev_eq hT hf
      exact ⟨us, vs ++ args.map a.eval, by simp [resolve, hv, Deferred.ofValue], by rw [Array.toList_append, Array.toList_append]; exact LR.app (LR.app (capA_eq hvs) (by simpa using evl_eq hT hys)) (capA_eq hus)⟩
    · cases h
  · cases h
theorem callee_eq {i : Inj} {t : T} {a : Act} {o : Oper} {g : FuncId} {xs : List AV} (hT : TR i t a) (h : callee t.m o = some (g, xs)) :
    ∃ us : Array Value, (∀ w, (execOp a.eval o).run P w = (callFunc g us).run P w) ∧ LR (AR i) xs us.toList := by
  unfold callee at h
  split at h
  · rename_i c ho
    obtain ⟨caps, args, h1, h2⟩ := calleeC_eq (ty := o.type) hT h
    exact ⟨args ++ caps, fun w => by simp [execOp, ho, h1, invoke], h2⟩
  · cases h
theorem odef_eq {i : Inj} {t : T} {a : Act} {o : Oper} {p : DA} (hT : TR i t a) (h : odef t.m o = some p) : ∃ d, (∀ w, (execOp a.eval o).run P w = .ok (.defer d) w) ∧ DR i p d := by
  unfold odef at h
  split at h
  · rename_i c ho
    split at h
    · rename_i g xs hg
      simp at h
      subst h
      obtain ⟨caps, args, h1, h2⟩ := calleeC_eq (ty := o.type) hT hg
      exact ⟨{ target := .fn (.func g) caps, args := args }, fun w => by simp [execOp, ho, h1], caps, rfl, h2⟩
    · cases h
  · cases h
def argsT : List AV → Nat → Tri AV → Option (Tri AV)
  | [], _, t => some t
  | c :: l, o, t => match t.set 64 o c with | none => none | some t' => argsT l (o + 1) t'
theorem argsT_eq : ∀ (l : List AV) (o : Nat) (t t' : Tri AV), argsT l o t = some t' → ∀ j, t'.get j = if o ≤ j ∧ j < o + l.length then l[j - o]? else t.get j
  | [], o, t, t', h, j => by simp [argsT] at h; subst h; rw [if_neg (by simp)]
  | c :: l, o, t, t', h, j => by
    simp only [argsT] at h
    split at h
    · cases h
    · rename_i t1 ht
      rw [argsT_eq l (o + 1) t1 t' h j, Tri.get_set _ _ _ _ _ ht]
      by_cases e : j = o
      · subst e
        rw [if_neg (by omega), if_pos rfl, if_pos (by simp)]
        simp
      · rw [if_neg e]
        by_cases e2 : o + 1 ≤ j ∧ j < o + 1 + l.length
        · rw [if_pos e2, if_pos (by simp; omega), show j - o = (j - (o + 1)) + 1 by omega]
          simp
        · rw [if_neg e2, if_neg (by simp; omega)]
def enter (fn : Func) (xs : List AV) : Option T := match argsT xs 0 .e with | some m => wNat (xs.length + (fn.ntmps - xs.length)) fun n => some ⟨n, m, []⟩ | none => none
theorem enter_eq {i : Inj} {fn : Func} {xs : List AV} {us : Array Value} {t : T} (h : enter fn xs = some t) (hl : LR (AR i) xs us.toList) : TR i t { tmps := us ++ Array.replicate (fn.ntmps - us.size) undef, defers := [] } := by
  unfold enter at h
  split at h
  · rename_i m hm
    simp at h
    subst h
    have hlen := hl.len
    simp at hlen
    refine ⟨trivial, by simp [hlen], fun s x hs => ?_⟩
    dsimp only at hs
    rw [argsT_eq _ _ _ _ hm] at hs
    split at hs
    · rename_i hlt
      simp at hs
      obtain ⟨u, h1, h2⟩ := hl.get s x hs
      have h1' : us[s]? = some u := by simpa using h1
      have hsz := (Array.getElem?_eq_some_iff.1 h1').1
      have : (us ++ Array.replicate (fn.ntmps - us.size) undef).getD s undef = u := by
        rw [Array.getD_eq_getD_getElem?, Array.getElem?_append_left hsz, h1']
        rfl
      simpa [this] using h2
    · simp [Tri.get] at hs
  · cases h
def resl (P : Program) (t : Tri AV) (h : Hp) : List ResultVar → Option (List AV)
  | [] => some []
  | .tmp s :: l => (match t.get s, resl P t h l with | some x, some m => some (x :: m) | _, _ => none)
  | .cell s ty :: l => (match t.get s with
    | some (.v (.c (.p b o))) => (match aLoad P h ty b o, resl P t h l with | some x, some m => some (x :: m) | _, _ => none)
    | _ => none)
def resSem (a : Act) (r : ResultVar) : Sem Value := match r with | .tmp t => pure (a.tmps.getD t undef) | .cell s ty => do loadVar ty (← asAddr (a.tmps.getD s undef))
theorem resSem_tmp (a : Act) (s : Tmp) (w : World) : (resSem a (.tmp s)).run P w = .ok (a.tmps.getD s undef) w := rfl
theorem resSem_cell {a : Act} {s : Tmp} {ty : TypeId} {w : World} {p : Addr} {v : Value} (h1 : a.tmps.getD s undef = .pointer (some p)) (h2 : (loadVar ty p).run P w = .ok v w) : (resSem a (.cell s ty)).run P w = .ok v w := by
  simp only [resSem, h1, asAddr, Sem.run_bind, Sem.run_pure, Result.andThen_ok, h2]
theorem resl_eq {i : Inj} {t : T} {h : Hp} {a : Act} {w : World} (hT : TR i t a) (hR : Rel w0 i h.m.get h.n w) : ∀ (l : List ResultVar) (m : List AV), resl P t.m h l = some m →
    ∃ us : List Value, (l.mapM (resSem a)).run P w = .ok us w ∧ LR (AR i) m us
  | [], m, hh => by simp [resl] at hh; subst hh; exact ⟨[], rfl, trivial⟩
  | .tmp s :: l, m, hh => by
    simp only [resl] at hh
    split at hh
    · rename_i x m' hx hm
      simp at hh
      subst hh
      obtain ⟨us, h1, h2⟩ := resl_eq hT hR l m' hm
      exact ⟨_ :: us, by simp only [List.mapM_cons, Sem.run_bind, resSem_tmp, Result.andThen_ok, h1, Sem.run_pure], hT.slot s x hx, h2⟩
    · cases hh
  | .cell s ty :: l, m, hh => by
    simp only [resl] at hh
    split at hh
    · rename_i b o hb
      split at hh
      · rename_i x m' hx hm
        simp at hh
        subst hh
        obtain ⟨us, h1, h2⟩ := resl_eq hT hR l m' hm
        obtain ⟨k, N, h3, h4⟩ := hT.slot s _ hb
        obtain ⟨v, h5, h6⟩ := aLoad_eq (P := P) hR h3 hx
        refine ⟨v :: us, ?_, h6, h2⟩
        simp only [List.mapM_cons, Sem.run_bind, resSem_cell h4 h5, Result.andThen_ok, h1, Sem.run_pure]
      · cases hh
    · cases hh
def all1 : List AV → Option (List V1)
  | [] => some []
  | .v x :: l => (match all1 l with | some m => some (x :: m) | none => none)
  | .t _ :: _ => none
theorem all1_eq {i : Inj} : ∀ {l : List AV} {m : List V1} {us : List Value}, all1 l = some m → LR (AR i) l us → LR (V1R i) m us
  | [], m, [], h, _ => by simp [all1] at h; subst h; trivial
  | .v x :: l, m, u :: us, h, ⟨h1, h2⟩ => by
    simp only [all1] at h
    split at h
    · rename_i m' hm; simp at h; subst h; exact ⟨h1, all1_eq hm h2⟩
    · cases h
  | .t _ :: _, _, _ :: _, h, _ => by simp [all1] at h
  | [], _, _ :: _, _, h => h.elim
  | _ :: _, _, [], _, h => h.elim
def aRes (P : Program) (fn : Func) (t : Tri AV) (h : Hp) : Option AV :=
  match resl P t h fn.results.toList with
  | some [x] => some x
  | some l => (match all1 l with | some m => some (.t m) | none => none)
  | none => none
theorem aRes_eq {i : Inj} {fn : Func} {t : T} {h : Hp} {a : Act} {w : World} {x : AV} (hT : TR i t a) (hR : Rel w0 i h.m.get h.n w) (hx : aRes P fn t.m h = some x) : ∃ v, (results fn a.tmps).run P w = .ok v w ∧ AR i x v := by
  have hrun : ∀ us : List Value, (fn.results.toList.mapM (resSem a)).run P w = .ok us w →
      (results fn a.tmps).run P w = .ok (if h : us.toArray.size = 1 then us.toArray[0] else .tuple us.toArray) w := by
    intro us hus
    have e : results fn a.tmps = (do let vs ← fn.results.mapM (resSem a); pure (if h : vs.size = 1 then vs[0] else .tuple vs)) := rfl
    rw [e, Array.mapM_eq_mapM_toList]
    simp only [Sem.run_bind, Sem.run_map, hus, Result.andThen_ok, Sem.run_pure]
  unfold aRes at hx
  split at hx
  · rename_i y hy
    simp at hx
    subst hx
    obtain ⟨us, h1, h2⟩ := resl_eq (P := P) hT hR _ _ hy
    match us, h2 with
    | [u], ⟨h3, _⟩ => exact ⟨u, by rw [hrun _ h1]; simp, h3⟩
  · rename_i l hne hl
    split at hx
    · rename_i m hm
      simp at hx
      subst hx
      obtain ⟨us, h1, h2⟩ := resl_eq (P := P) hT hR _ _ hl
      refine ⟨.tuple us.toArray, ?_, us.toArray, rfl, by simpa using all1_eq hm h2⟩
      rw [hrun _ h1, dif_neg]
      intro h3
      have := h2.len
      simp at h3
      have h5 : us.length = 1 := by simpa using h3
      have h6 : l.length = 1 := by omega
      obtain ⟨z, rfl⟩ := List.length_eq_one_iff.1 h6
      exact hne z rfl
    · cases hx
  · cases hx
def abody (P : Program) (rec : Rec) (g : FuncId) (xs : List AV) (h : Hp) : Option (List (T × Hp)) :=
  match fnOk P g with
  | some (fn, c) => (match enter fn xs with
    | some t => (match rec c t h with
      | some L => bindL L fun r => (match r.1 with | .ex _ => none | _ => some [r.2])
      | none => none)
    | none => none)
  | none => none
def acall0 (P : Program) (rec : Rec) (g : FuncId) (xs : List AV) (h : Hp) : Option (List (AV × Hp)) :=
  match fnOk P g, abody P rec g xs h with
  | some (fn, _), some L => bindL L fun r => (match r.1.d with
    | [] => (match aRes P fn r.1.m r.2 with | some x => some [(x, r.2)] | none => none)
    | _ :: _ => none)
  | _, _ => none
def leave (P : Program) (rec : Rec) (fn : Func) (t : Tri AV) : List DA → Hp → Option (List (AV × Hp))
  | [], h => (match aRes P fn t h with | some x => some [(x, h)] | none => none)
  | .f g xs :: ds, h => (match acall0 P rec g xs h with | some L => bindL L fun r => leave P rec fn t ds r.2 | none => none)
  | .m b :: ds, h => (match h.m.get b with
    | some (.df true) => (match setH h b .d with | some h' => leave P rec fn t ds h' | none => none)
    | _ => none)
def acall (P : Program) (rec : Rec) (g : FuncId) (xs : List AV) (h : Hp) : Option (List (AV × Hp)) :=
  match fnOk P g, abody P rec g xs h with
  | some (fn, _), some L => (match bindL L fun r => leave P rec fn r.1.m r.1.d r.2 with | some M => merge h.n M | none => none)
  | _, _ => none
def CallR (w0 : Base) (i : Inj) (L : List (AV × Hp)) : Ending → World → Prop := fun e w => ∃ r ∈ L, ∃ j v, e = .returned v ∧ Le i j ∧ AR j r.1 v ∧ Rel w0 j r.2.m.get r.2.n w
theorem CallR.mono {i j : Inj} {L M : List (AV × Hp)} (hi : Le i j) (hL : ∀ r ∈ L, r ∈ M) {e : Ending} {w : World} (h : CallR w0 j L e w) : CallR w0 i M e w := by
  obtain ⟨r, h1, k, v, h2, h3, h4⟩ := h
  exact ⟨r, hL r h1, k, v, h2, hi.trans h3, h4⟩
theorem CallR.merge {i : Inj} {L M : List (AV × Hp)} {g : Nat → Option AO} {n : Nat} {w1 : World} (hR : Rel w0 i g n w1) (hm : R.merge n L = some M) {e : Ending} {w : World} (h : CallR w0 i L e w) : CallR w0 i M e w := by
  obtain ⟨r, hr, j, v, rfl, hj, hv, hR'⟩ := h
  obtain ⟨x, hx, rfl | hs⟩ := merge_eq hm r hr
  · exact ⟨x, hx, j, v, rfl, hj, hv, hR'⟩
  · obtain ⟨j', g1, g2, g3⟩ := sim_eq hs hR.dom (fun b hb => (hR.gh b hb).1) hj hR' hv
    exact ⟨x, hx, j', v, rfl, g1, g2, g3⟩
theorem abody_eq {rec : Rec} (hrec : Sound P rec) {g : FuncId} {xs : List AV} {h : Hp} {L : List (T × Hp)} {fn : Func} {c : Code} (hg : fnOk P g = some (fn, c)) (hc : abody P rec g xs h = some L) {i : Inj} {us : Array Value} {w : World} (hl : LR (AR i) xs us.toList) (hR : Rel w0 i h.m.get h.n w) :
    c.wpIn (FW none) 0 P (fun e a w => (e = .normal ∨ e = .ret) ∧ ∃ r ∈ L, ∃ j, Le i j ∧ TR j r.1 a ∧ Rel w0 j r.2.m.get r.2.n w) { tmps := us ++ Array.replicate (fn.ntmps - us.size) undef, defers := [] } w := by
  unfold abody at hc
  rw [hg] at hc
  dsimp only at hc
  split at hc
  · rename_i t ht
    split at hc
    · rename_i M hM
      refine wpIn_mono (hrec w0 c t h M hM none (.inl rfl) i _ w (enter_eq ht hl) hR) fun e a' w' hf => ?_
      obtain ⟨r, hr, he, j, hj, hT, hR'⟩ := hf
      obtain ⟨x, hx, hxL⟩ := bindL_eq hc r hr
      obtain ⟨e', t', h'⟩ := r
      subst he
      cases e' with
      | ex id => simp at hx
      | normal => simp at hx; subst hx; exact ⟨.inl rfl, (t', h'), hxL _ (List.mem_singleton.2 rfl), j, hj, hT, hR'⟩
      | ret => simp at hx; subst hx; exact ⟨.inr rfl, (t', h'), hxL _ (List.mem_singleton.2 rfl), j, hj, hT, hR'⟩
    · cases hc
  · cases hc
theorem acall0_eq {rec : Rec} (hrec : Sound P rec) {g : FuncId} {xs : List AV} {h : Hp} {L : List (AV × Hp)} (hc : acall0 P rec g xs h = some L) {i : Inj} {us : Array Value} {w : World} (hl : LR (AR i) xs us.toList) (hR : Rel w0 i h.m.get h.n w) :
    ∃ fn c, fnOk P g = some (fn, c) ∧ c.wpIn (FW none) 0 P (bodyPost P fn (CallR w0 i L)) { tmps := us ++ Array.replicate (fn.ntmps - us.size) undef, defers := [] } w := by
  unfold acall0 at hc
  split at hc
  · rename_i fn c M hg hM
    refine ⟨fn, c, hg, wpIn_mono (abody_eq hrec hg hM hl hR) fun e a' w' hf => ?_⟩
    obtain ⟨he, r, hr, j, hj, hT, hR'⟩ := hf
    obtain ⟨x, hx, hxL⟩ := bindL_eq hc r hr
    split at hx
    · rename_i hd
      split at hx
      · rename_i y hy
        simp at hx
        subst hx
        obtain ⟨v, h3, h4⟩ := aRes_eq (P := P) hT hR' hy
        have hde : a'.defers = [] := by
          have := hT.defers
          rw [hd] at this
          cases hq : a'.defers with
          | nil => rfl
          | cons _ _ => rw [hq] at this; exact this.elim
        have fin : a'.defers = [] ∧ ∃ v, (results fn a'.tmps).run P w' = .ok v w' ∧ CallR w0 i L (.returned v) w' := ⟨hde, v, h3, (y, r.2), hxL _ (List.mem_singleton.2 rfl), j, v, rfl, hj, h4, hR'⟩
        rcases he with rfl | rfl <;> exact fin
      · cases hx
    · cases hx
  · cases hc
theorem leavesM_mono {fn : Func} {tmps : Array Value} {R R' : Ending → World → Prop} (hq : ∀ e w, R e w → R' e w) : ∀ (ds : List Deferred) (u : FrameMode) (w : World), LeavesInM (FW none) 0 P fn tmps R ds u w → LeavesInM (FW none) 0 P fn tmps R' ds u w
  | [], .returning, w, ⟨v, h1, h2⟩ => ⟨v, h1, hq _ _ h2⟩
  | [], .panicking _, w, h => hq _ _ h
  | [], .run, w, h => h.elim
  | d :: ds, u, w, ⟨h1, .inl ⟨r, w', h2, h3, h4⟩⟩ => ⟨h1, .inl ⟨r, w', h2, h3, leavesM_mono hq ds _ _ h4⟩⟩
  | d :: ds, u, w, ⟨h1, .inr ⟨h2, fv, cap, f, args, h3, h4, h5, h6⟩⟩ => ⟨h1, .inr ⟨h2, fv, cap, f, args, h3, h4, h5, CallsDIn.mono h6 fun e u' w' he => by
      cases e with
      | returned v => exact leavesM_mono hq ds _ _ he
      | panicked c => exact leavesM_mono hq ds _ _ he
      | outgrown => exact hq _ _ he⟩⟩
theorem leave_eq {rec : Rec} (hrec : Sound P rec) {fn : Func} {t : T} {a : Act} : ∀ (ds : List DA) (h : Hp) (L : List (AV × Hp)), leave P rec fn t.m ds h = some L → ∀ (es : List Deferred) (i : Inj) (w : World), TR i t a → LR (DR i) ds es → Rel w0 i h.m.get h.n w →
    LeavesInM (FW none) 0 P fn a.tmps (CallR w0 i L) es .returning w
  | [], h, L, hh, [], i, w, hT, _, hR => by
    unfold leave at hh
    split at hh
    · rename_i x hx
      simp at hh
      subst hh
      obtain ⟨v, h3, h4⟩ := aRes_eq (P := P) hT hR hx
      exact ⟨v, h3, (x, h), List.mem_singleton.2 rfl, i, v, rfl, Le.refl i, h4, hR⟩
    · cases hh
  | .f g xs :: ds, h, L, hh, d :: es, i, w, hT, ⟨⟨caps, h1, h2⟩, h3⟩, hR => by
    unfold leave at hh
    split at hh
    · rename_i M hM
      obtain ⟨fn', c, hg, hwp⟩ := acall0_eq hrec hM h2 hR
      obtain ⟨f1, f2, _⟩ := fnOk_eq hg
      obtain ⟨tg, args⟩ := d
      dsimp only at h1
      subst h1
      refine ⟨by simp, .inr ⟨fun h => (by cases h), .func g, caps, g, args ++ caps, rfl, by simp [invoke, callFunc_run hg], fun _ _ => trivial, CallsDIn.mono (callsDIn_of_wp f1 f2 trivial hwp) fun e u' w' hq => ?_⟩⟩
      obtain ⟨rfl, r, hr, j, v, rfl, hj, _, hR'⟩ := hq
      obtain ⟨x, hx, hxL⟩ := bindL_eq hh r hr
      have := leave_eq hrec ds r.2 x hx es j w' (hT.mono hj) (h3.imp fun _ _ h4 => h4.mono hj) hR'
      show LeavesInM (FW none) 0 P fn a.tmps (CallR w0 i L) es (settle .returning) w'
      exact leavesM_mono (fun e w hc => hc.mono hj hxL) es _ _ this
    · cases hh
  | .m b :: ds, h, L, hh, d :: es, i, w, hT, ⟨⟨k, N, h1, h2⟩, h3⟩, hR => by
    unfold leave at hh
    split at hh
    · rename_i hb
      split at hh
      · rename_i h' hs
        obtain ⟨ob, h4, h5⟩ := hR.obj b _ k N hb h1
        have h5' : ob = .deferred (some []) := h5
        subst h5'
        obtain ⟨q1, q2⟩ := setH_eq hs
        have hR' := hR.setObj hb (by simp) h1 (o' := .d) (ob := .deferred none) trivial
        rw [← q1, ← q2] at hR'
        exact ⟨by simp, .inl ⟨k, _, h2, run_takeDeferred h4, leave_eq hrec ds h' L hh es i _ hT h3 hR'⟩⟩
      · cases hh
    · cases hh
  | [], _, _, _, _ :: _, _, _, _, h, _ => h.elim
  | _ :: _, _, _, _, [], _, _, _, h, _ => h.elim
theorem acall_eq {rec : Rec} (hrec : Sound P rec) {g : FuncId} {xs : List AV} {h : Hp} {L : List (AV × Hp)} (hc : acall P rec g xs h = some L) {i : Inj} {us : Array Value} {w : World} (hl : LR (AR i) xs us.toList) (hR : Rel w0 i h.m.get h.n w) :
    CallsIn (FW none) 0 P g us w (CallR w0 i L) := by
  unfold acall at hc
  split at hc
  · rename_i fn c M hg hM
    split at hc
    · rename_i M1 hM1
      obtain ⟨f1, f2, _⟩ := fnOk_eq hg
      refine CallsIn.mono (callsIn_of_wp_marks (R := CallR w0 i M1) f1 f2 trivial (wpIn_mono (abody_eq hrec hg hM hl hR) fun e a' w' hf => ?_)) fun e w' he => he.merge hR hc
      obtain ⟨he, r, hr, j, hj, hT, hR'⟩ := hf
      obtain ⟨x, hx, hxL⟩ := bindL_eq hM1 r hr
      have := leave_eq hrec r.1.d r.2 x hx a'.defers j w' hT hT.defers hR'
      have fin := leavesM_mono (P := P) (fun e w (hc : CallR w0 j x e w) => hc.mono hj hxL) _ _ _ this
      rcases he with rfl | rfl <;> exact fin
    · cases hc
  · cases hc
/- a loop over a function: its yield, called -/
def yieldC (t : Tri AV) (o : Oper) : Option (Nat × List AV) :=
  match o.op with
  | .call c => (match c.callee with
    | .value f => (match ev t f, evl t c.args.toList with | some (.v (.c (.y b))), some xs => some (b, xs) | _, _ => none)
    | _ => none)
  | _ => none
theorem yieldC_eq {i : Inj} {t : T} {a : Act} {o : Oper} {b : Nat} {xs : List AV} (hT : TR i t a) (h : yieldC t.m o = some (b, xs)) :
    ∃ (k N : Nat) (us : Array Value), i b = some (k, N) ∧ (∀ w, (execOp a.eval o).run P w = (Instr.yield k us).run P w) ∧ LR (AR i) xs us.toList := by
  unfold yieldC at h
  split at h
  · rename_i c ho
    obtain ⟨cal, args, ats⟩ := c
    split at h
    · rename_i f hc
      dsimp only at hc
      subst hc
      split at h
      · rename_i b' ys hf hys
        simp at h
        obtain ⟨rfl, rfl⟩ := h
        obtain ⟨k, N, h1, h2⟩ := ev_eq hT hf
        refine ⟨k, N, args.map a.eval, h1, fun w => ?_, by simpa using evl_eq hT hys⟩
        simp [execOp, ho, resolve, h2, Deferred.ofValue, invoke]
      · cases h
    · cases h
  · cases h
def putsT (n : Nat) : List Tmp → List AV → Tri AV → Option (Tri AV)
  | [], [], m => some m
  | p :: ps, x :: xs, m => gd (Nat.blt p n) (match m.set 64 p x with | some m' => putsT n ps xs m' | none => none)
  | _, _, _ => none
theorem putsT_eq {i : Inj} {n : Nat} : ∀ (ps : List Tmp) (xs : List AV) (m m' : Tri AV), putsT n ps xs m = some m' → ∀ (us : List Value) (tmps : Array Value), LR (AR i) xs us → tmps.size = n → (∀ s x, m.get s = some x → AR i x (tmps.getD s undef)) →
    us.length = ps.length ∧ ((ps.zip us).foldl (fun tmps (t, a) => tmps.setIfInBounds t a) tmps).size = n ∧ ∀ s x, m'.get s = some x → AR i x (((ps.zip us).foldl (fun tmps (t, a) => tmps.setIfInBounds t a) tmps).getD s undef)
  | [], [], m, m', h, [], tmps, _, hs, ht => by simp [putsT] at h; subst h; exact ⟨rfl, hs, ht⟩
  | p :: ps, x :: xs, m, m', h, u :: us, tmps, ⟨h1, h2⟩, hs, ht => by
    simp only [putsT, gd_eq] at h
    obtain ⟨hb, h⟩ := h
    split at h
    · rename_i m1 hm
      have hd : p < tmps.size := by rw [hs]; simpa [Nat.blt_eq] using hb
      have hg := Tri.get_set _ _ _ _ _ hm
      obtain ⟨g1, g2, g3⟩ := putsT_eq ps xs m1 m' h us (tmps.setIfInBounds p u) h2 (by simpa using hs) fun s y hy => by
        rw [hg] at hy
        split at hy
        · rename_i e
          subst e
          simp at hy
          subst hy
          simpa [Array.getD, hd] using h1
        · rename_i e
          have := ht s y hy
          simpa [Array.getElem?_setIfInBounds_ne (Ne.symm e)] using this
      exact ⟨by simp [g1], g2, g3⟩
    · cases h
  | [], [], _, _, _, _ :: _, _, h, _, _ => h.elim
  | [], _ :: _, _, _, h, _, _, _, _, _ => by simp [putsT] at h
  | _ :: _, [], _, _, h, _, _, _, _, _ => by simp [putsT] at h
  | _ :: _, _ :: _, _, _, _, [], _, h, _, _ => h.elim
def setLo (h : Hp) (b : Nat) (st : LoopState) (pend : Option Code) : Option Hp :=
  match h.m.get b with
  | some (.lo _ _ n m ps asg body D) => setH h b (.lo st pend n m ps asg body D)
  | _ => none
def readyLo (h : Hp) (b : Nat) : Option Hp :=
  match h.m.get b with
  | some (.lo .ready p n m ps asg body D) => setH h b (.lo .busy p n m ps asg body D)
  | _ => none
theorem setLo_eq {i : Inj} {h h' : Hp} {w : World} {b k N : Nat} {st : LoopState} {pend : Option Code} (hR : Rel w0 i h.m.get h.n w) (hi : i b = some (k, N)) (hs : setLo h b st pend = some h') :
    ∃ r : Loop, w.heap[k]? = some (.loop r) ∧ Rel w0 i h'.m.get h'.n (w.putObj k (.loop { r with state := st, pending := pend })) := by
  unfold setLo at hs
  split at hs
  · rename_i st0 p0 n m ps asg body D hb
    obtain ⟨ob, h1, r, rfl, e1, e2, e3, e4, e5, e6, e7, e8⟩ := hR.obj b _ k N hb hi
    obtain ⟨q1, q2⟩ := setH_eq hs
    refine ⟨r, h1, ?_⟩
    rw [q1, q2]
    exact hR.setObj hb (by simp) hi (o' := .lo st pend n m ps asg body D) ⟨_, rfl, rfl, rfl, e3, e4, e5, e6, e7, e8⟩
  · cases hs
theorem readyLo_eq {i : Inj} {h h' : Hp} {w : World} {b k N : Nat} (hR : Rel w0 i h.m.get h.n w) (hi : i b = some (k, N)) (hs : readyLo h b = some h') :
    ∃ w', (Instr.beginRound k).run P w = .ok () w' ∧ Rel w0 i h'.m.get h'.n w' := by
  unfold readyLo at hs
  split at hs
  · rename_i p0 n m ps asg body D hb
    obtain ⟨ob, h1, r, rfl, e1, e2, e3, e4, e5, e6, e7, e8⟩ := hR.obj b _ k N hb hi
    obtain ⟨q1, q2⟩ := setH_eq hs
    refine ⟨_, run_beginRound h1 e1, ?_⟩
    rw [q1, q2]
    exact hR.setObj hb (by simp) hi (o' := .lo .busy p0 n m ps asg body D) ⟨_, rfl, rfl, e2, e3, e4, e5, e6, e7, e8⟩
  · cases hs
def endR (b : Nat) (q : Out) : Option (List (AV × Hp)) :=
  match q.1 with
  | .normal => (match setLo q.2.2 b .ready none with | some h => some [(.v (.c (.x (.bool true))), h)] | none => none)
  | .ret => (match setLo q.2.2 b .done (some .ret) with | some h => some [(.v (.c (.x (.bool false))), h)] | none => none)
  | .ex id => (match setLo q.2.2 b .done (some (.exit id)) with | some h => some [(.v (.c (.x (.bool false))), h)] | none => none)
def ayield (rec : Rec) (b : Nat) (xs : List AV) (h : Hp) : Option (List (AV × Hp)) :=
  match h.m.get b with
  | some (.lo .ready _ n m ps asg body _) => gd (plainC asg && plainC body) (match putsT n ps xs m with
    | some m' => (match rec asg ⟨n, m', []⟩ h with
      | some L => bindL L fun r => (match r.1 with
        | .normal => (match readyLo r.2.2 b with
          | some h1 => (match rec body r.2.1 h1 with
            | some M => bindL M fun q => endR b q
            | none => none)
          | none => none)
        | _ => none)
      | none => none)
    | none => none)
  | _ => none
theorem ayield_eq {rec : Rec} (hrec : Sound P rec) {b : Nat} {xs : List AV} {h : Hp} {L : List (AV × Hp)} (hc : ayield rec b xs h = some L) {i : Inj} {us : Array Value} {w : World} {k N : Nat} (hi : i b = some (k, N)) (hl : LR (AR i) xs us.toList) (hR : Rel w0 i h.m.get h.n w) (rd : Option Nat) :
    ∃ f tmps asg body, (Instr.yield k us).run P w = .ok (.round k f tmps asg body) w ∧ RoundIn (FW rd) 0 P k f tmps asg body w (CallR w0 i L) := by
  unfold ayield at hc
  split at hc
  · rename_i p0 n m ps asg body D hb
    rw [gd_eq] at hc
    obtain ⟨hp, hc⟩ := hc
    simp only [Bool.and_eq_true] at hp
    split at hc
    · rename_i m' hm
      split at hc
      · rename_i M hM
        obtain ⟨ob, h1, r, rfl, e1, e2, e3, e4, e5, e6, e7, e8⟩ := hR.obj b _ k N hb hi
        obtain ⟨g1, g2, g3⟩ := putsT_eq ps xs m m' hm us.toList r.tmps hl e7 e8
        have hy := run_yield (P := P) (args := us) h1 (by rw [e3]; simpa using g1)
        refine ⟨_, _, _, _, hy, roundIn_of_wpIn trivial ?_⟩
        have et : (r.params.zip us).foldl (fun tmps (x : Tmp × Value) => tmps.setIfInBounds x.1 x.2) r.tmps = (ps.zip us.toList).foldl (fun tmps (x : Tmp × Value) => tmps.setIfInBounds x.1 x.2) r.tmps := by
          rw [e3, ← Array.foldl_toList, Array.toList_zip]
        have hT : TR i ⟨n, m', []⟩ { tmps := (r.params.zip us).foldl (fun tmps (x : Tmp × Value) => tmps.setIfInBounds x.1 x.2) r.tmps, defers := [] } := by
          rw [et]
          exact ⟨trivial, g2, g3⟩
        rw [e4, e5]
        refine wpIn_mono (hrec w0 asg ⟨n, m', []⟩ h M hM (some k) (.inr hp.1) i _ w hT hR) fun e a' w' hf => ?_
        obtain ⟨r1, hr1, rfl, j, hj, hT1, hR1⟩ := hf
        obtain ⟨x, hx, hxL⟩ := bindL_eq hc r1 hr1
        obtain ⟨e', t', h'⟩ := r1
        cases e' with
        | ex id => simp at hx
        | ret => simp at hx
        | normal =>
          dsimp only at hx
          split at hx
          · rename_i h2 hh2
            split at hx
            · rename_i M2 hM2
              obtain ⟨w2, b1, b2⟩ := readyLo_eq (P := P) hR1 (hj _ _ hi) hh2
              refine ⟨w2, b1, wpIn_mono (hrec w0 body t' h2 M2 hM2 (some k) (.inr hp.2) j _ w2 hT1 b2) fun e a3 w3 hf => ?_⟩
              obtain ⟨r2, hr2, rfl, j2, hj2, hT2, hR2⟩ := hf
              obtain ⟨y, hy2, hyL⟩ := bindL_eq hx r2 hr2
              obtain ⟨e2, t2, h3⟩ := r2
              unfold endR at hy2
              dsimp only at hy2 hR2 hT2
              have hi2 := hj2 _ _ (hj _ _ hi)
              cases e2 with
              | normal =>
                dsimp only at hy2
                split at hy2
                · rename_i h4 hh4
                  simp at hy2
                  subst hy2
                  obtain ⟨r5, l1, l2⟩ := setLo_eq hR2 hi2 hh4
                  exact ⟨_, _, run_endRound none l1, (.v (.c (.x (.bool true))), h4), hxL _ (hyL _ (List.mem_singleton.2 rfl)), j2, _, rfl, hj.trans hj2, ⟨rfl, rfl⟩, l2⟩
                · cases hy2
              | ret =>
                dsimp only at hy2
                split at hy2
                · rename_i h4 hh4
                  simp at hy2
                  subst hy2
                  obtain ⟨r5, l1, l2⟩ := setLo_eq hR2 hi2 hh4
                  exact ⟨_, _, run_endRound (some .ret) l1, (.v (.c (.x (.bool false))), h4), hxL _ (hyL _ (List.mem_singleton.2 rfl)), j2, _, rfl, hj.trans hj2, ⟨rfl, rfl⟩, l2⟩
                · cases hy2
              | ex id =>
                dsimp only at hy2
                split at hy2
                · rename_i h4 hh4
                  simp at hy2
                  subst hy2
                  obtain ⟨r5, l1, l2⟩ := setLo_eq hR2 hi2 hh4
                  exact ⟨_, _, run_endRound (some (.exit id)) l1, (.v (.c (.x (.bool false))), h4), hxL _ (hyL _ (List.mem_singleton.2 rfl)), j2, _, rfl, hj.trans hj2, ⟨rfl, rfl⟩, l2⟩
                · cases hy2
            · cases hx
          · cases hx
      · cases hc
    · cases hc
  · cases hc
/- guards -/
def want (ops : Array Oper) (t : Tri AV) (o : Oper) : Option Bool :=
  match o.guard with
  | none => some true
  | some (j, b) => (match ops[j]? with
    | none => some false
    | some oj => (match oj.dst with
      | none => some false
      | some d => (match t.get d with
        | some (.v (.c (.x (.bool c)))) => some (cond c b (not b))
        | some (.t []) => some false
        | _ => none)))
theorem want_eq {i : Inj} {ops : Array Oper} {t : T} {a : Act} {o : Oper} {b : Bool} (hT : TR i t a) (h : want ops t.m o = some b) : Region.wanted o (yielded ops a.tmps) = b := by
  unfold want at h
  unfold Region.wanted
  split at h
  · rename_i hg; simp at h; subst h; rw [hg]
  · rename_i j q hg
    rw [hg]
    dsimp only
    split at h
    · rename_i hj; simp at h; subst h; simp [yielded, hj]
    · rename_i oj hj
      split at h
      · rename_i hd; simp at h; subst h; simp [yielded, hj, hd]
      · rename_i d hd
        split at h
        · rename_i c hc
          have hv := (hT.slot d _ hc).1
          have : a.tmps[d]? = some (.bool c) := by
            rw [Array.getD_eq_getD_getElem?] at hv
            cases hx : a.tmps[d]? with
            | none => rw [hx] at hv; simp [undef] at hv
            | some v => rw [hx] at hv; simp at hv; rw [hv]
          simp at h
          subst h
          simp [yielded, hj, hd, this]
          cases c <;> cases q <;> rfl
        · rename_i hc
          obtain ⟨us, hv, hl⟩ := hT.slot d _ hc
          have hus : us = #[] := by
            obtain ⟨us⟩ := us
            cases us with
            | nil => rfl
            | cons _ _ => exact hl.elim
          subst hus
          simp at h
          subst h
          rw [Array.getD_eq_getD_getElem?] at hv
          cases hx : a.tmps[d]? with
          | none => simp [yielded, hj, hd, hx]
          | some v => rw [hx] at hv; simp at hv; subst hv; simp [yielded, hj, hd, hx]
        · cases h
/- what stands outside -/
structure Env where
  X : List (FuncId × XK)
  S : FuncId → List AV → Hp → Option (List (AV × Hp))
def lookX : List (FuncId × XK) → FuncId → Option XK
  | [], _ => none
  | (g, k) :: l, f => cond (Nat.beq g f) (some k) (lookX l f)
structure EOk (P : Program) (E : Env) : Prop where
  x : ∀ g k, lookX E.X g = some k → ExtIs P g k
  s : ∀ (w0 : Base) g xs h L, E.S g xs h = some L → (∃ r, fnOk P g = some r) ∧ ∀ (i : Inj) (us : Array Value) (w : World), LR (AR i) xs us.toList → Rel w0 i h.m.get h.n w → CallsIn (FW none) 0 P g us w (CallR w0 i L)
theorem XAll_look {l : List (FuncId × XK)} (h : XAll P l) {g : FuncId} {k : XK} (hk : lookX l g = some k) : ExtIs P g k := by
  induction l with
  | nil => cases hk
  | cons p l ih =>
    obtain ⟨f, q⟩ := p
    simp only [lookX] at hk
    cases hb : Nat.beq f g with
    | true =>
      rw [hb] at hk
      simp at hk
      subst hk
      rw [← beq_of hb]
      exact h.1
    | false => rw [hb] at hk; exact ih h.2 hk
/- operations that several things may come of, and rarer ones -/
def one1 (r : Option (AV × Hp)) : Option (List (AV × Hp)) := match r with | some x => some [x] | none => none
def unit1 (r : Option Hp) : Option (List (AV × Hp)) := match r with | some x => some [(udf, x)] | none => none
def same1 (h : Hp) (r : Option AV) : Option (List (AV × Hp)) := match r with | some x => some [(x, h)] | none => none
def amore (P : Program) (t : Tri AV) (h : Hp) (o : Oper) : Option (List (AV × Hp)) :=
  match o.op with
  | .next x is => (match ev t x with | some y => aNext h y is | none => none)
  | .entry x => (match ev t x with | some y => same1 h (aEntry h y) | none => none)
  | .range ty x => (match ev t x with | some y => one1 (aRange P h ty y) | none => none)
  | .convert src dst x => (match ev t x with | some y => (match aBytes P h src dst y with | some z => some [(z, h)] | none => same1 h (aUnsafe P h src dst y)) | none => none)
  | .makeSlice ty l c => (match ev t l, ev t c with | some l, some c => one1 (aMakeSlice P h ty l c) | _, _ => none)
  | .call c => (match c.callee with
    | .builtin .append => (match evl t c.args.toList with | some [s, x] => (match aAppIn P h c.argTypes.toList s x with | some r => some [r] | none => one1 (aAppZ P h c.argTypes.toList s x)) | _ => none)
    | .builtin .copy => (match evl t c.args.toList with | some [s, x] => one1 (aCopy P h c.argTypes.toList s x) | _ => none)
    | .builtin .clear => (match evl t c.args.toList with | some [x] => unit1 (aClear P h c.argTypes.toList x) | _ => none)
    | _ => none)
  | _ => none
def RanL (P : Program) (w0 : Base) (s : Sem Next) (i : Inj) (w : World) (L : List (AV × Hp)) : Prop := ∃ r ∈ L, Ran P w0 s i w r.1 r.2
theorem RanL.one1 {s : Sem Next} {i : Inj} {w : World} {r : Option (AV × Hp)} {L : List (AV × Hp)} (hL : one1 r = some L) (h : ∀ x h', r = some (x, h') → Ran P w0 s i w x h') : RanL P w0 s i w L := by
  unfold R.one1 at hL
  split at hL
  · rename_i x; simp at hL; subst hL; exact ⟨x, List.mem_singleton.2 rfl, h x.1 x.2 rfl⟩
  · cases hL
theorem amore_eq {i : Inj} {h : Hp} {w : World} {t : T} {a : Act} {o : Oper} {L : List (AV × Hp)} (hT : TR i t a) (hR : Rel w0 i h.m.get h.n w) (ha : amore P t.m h o = some L) : RanL P w0 (execOp a.eval o) i w L := by
  unfold amore at ha
  split at ha
  · rename_i x is ho
    split at ha
    · rename_i y hy
      obtain ⟨v, w', h1, r, h2, h3, h4⟩ := aNext_eq (P := P) (ty := o.type) hR (ev_eq hT hy) ha
      exact ⟨r, h2, i, .value v, w', by simp [execOp, ho, h1], Le.refl i, h3, .inl ⟨v, rfl, h4⟩⟩
    · cases ha
  · rename_i x ho
    split at ha
    · rename_i y hy
      unfold same1 at ha
      split at ha
      · rename_i z hz
        simp at ha
        subst ha
        obtain ⟨v, h1, h2⟩ := aEntry_eq (P := P) hR (ev_eq hT hy) hz
        exact ⟨_, List.mem_singleton.2 rfl, i, .value v, w, by simp [execOp, ho, h1], Le.refl i, hR, .inl ⟨v, rfl, h2⟩⟩
      · cases ha
    · cases ha
  · rename_i ty x ho
    split at ha
    · rename_i y hy
      exact RanL.one1 ha fun z h' hz => by simp only [execOp, ho]; exact aRange_eq hR (ev_eq hT hy) hz
    · cases ha
  · rename_i src dst x ho
    split at ha
    · rename_i y hy
      split at ha
      · rename_i z hz
        simp at ha
        subst ha
        obtain ⟨v, h1, h2⟩ := aBytes_eq (P := P) hR (ev_eq hT hy) hz
        exact ⟨_, List.mem_singleton.2 rfl, i, .value v, w, by simp [execOp, ho, h1], Le.refl i, hR, .inl ⟨v, rfl, h2⟩⟩
      · unfold same1 at ha
        split at ha
        · rename_i z hz
          simp at ha
          subst ha
          obtain ⟨v, h1, h2⟩ := aUnsafe_eq (P := P) hR (ev_eq hT hy) hz
          exact ⟨_, List.mem_singleton.2 rfl, i, .value v, w, by simp [execOp, ho, h1], Le.refl i, hR, .inl ⟨v, rfl, h2⟩⟩
        · cases ha
    · cases ha
  · rename_i ty l c ho
    split at ha
    · rename_i x y hx hy
      exact RanL.one1 ha fun z h' hz => by simp only [execOp, ho]; exact aMakeSlice_eq hR (ev_eq hT hx) (ev_eq hT hy) hz
    · cases ha
  · rename_i c ho
    obtain ⟨cal, args, ats⟩ := c
    split at ha
    · rename_i hc
      dsimp only at hc
      subst hc
      obtain ⟨cs, hex⟩ := ex_builtin (ρ := a.eval) ho
      split at ha
      · rename_i s y hl
        have hL := evl_eq hT hl
        obtain ⟨args⟩ := args
        match args, hL with
        | [p, q], ⟨h1, h2, _⟩ =>
          rw [hex]
          split at ha
          · rename_i r hr
            simp at ha
            subst ha
            exact ⟨r, List.mem_singleton.2 rfl, by simpa [builtin] using aAppIn_eq (P := P) (ty := o.type) hR h1 h2 (z := r.1) (h' := r.2) hr⟩
          · exact RanL.one1 ha fun z h' hz => by simpa [builtin] using aAppZ_eq (P := P) (ty := o.type) hR h1 h2 hz
      · cases ha
    · rename_i hc
      dsimp only at hc
      subst hc
      obtain ⟨cs, hex⟩ := ex_builtin (ρ := a.eval) ho
      split at ha
      · rename_i s y hl
        have hL := evl_eq hT hl
        obtain ⟨args⟩ := args
        match args, hL with
        | [p, q], ⟨h1, h2, _⟩ =>
          rw [hex]
          exact RanL.one1 ha fun z h' hz => by simpa [builtin] using aCopy_eq (P := P) (ty := o.type) hR h1 h2 hz
      · cases ha
    · rename_i hc
      dsimp only at hc
      subst hc
      obtain ⟨cs, hex⟩ := ex_builtin (ρ := a.eval) ho
      split at ha
      · rename_i y hl
        unfold unit1 at ha
        split at ha
        · rename_i h' hz
          simp at ha
          subst ha
          have hL := evl_eq hT hl
          obtain ⟨args⟩ := args
          match args, hL with
          | [p], ⟨h1, _⟩ =>
            obtain ⟨w', h3, h4⟩ := aClear_eq (P := P) (ty := o.type) hR h1 hz
            exact ⟨_, List.mem_singleton.2 rfl, i, .value (.tuple #[]), w', by rw [hex]; simp [builtin, h3], Le.refl i, h4, .inl ⟨_, rfl, udf_eq i⟩⟩
        · cases ha
      · cases ha
    · cases ha
  · cases ha
/- one operation -/
def ostep (P : Program) (E : Env) (rec : Rec) (t : Tri AV) (h : Hp) (o : Oper) : Option (List (AV × Hp)) :=
  match callee t o with
  | some (g, xs) => (match lookX E.X g with
    | some k => (match aext P k xs h with | some r => some [r] | none => none)
    | none => (match E.S g xs h with
      | some L => some L
      | none => acall P rec g xs h))
  | none => (match afree P t o with
    | some x => some [(x, h)]
    | none => (match aread P t h o with
      | some x => some [(x, h)]
      | none => (match aeff P t h o with
        | some r => some [r]
        | none => (match amore P t h o with
          | some L => some L
          | none => (match yieldC t o with | some (b, xs) => ayield rec b xs h | none => none)))))
theorem ostep_eq {rd : Option Nat} {E : Env} (hE : EOk P E) {rec : Rec} (hrec : Sound P rec) {i : Inj} {t : T} {a : Act} {h : Hp} {w : World} {o : Oper} {L : List (AV × Hp)} (hT : TR i t a) (hR : Rel w0 i h.m.get h.n w) (hs : ostep P E rec t.m h o = some L) (hsm : ∀ ρ, Oper.semAt rd ρ o = execOp ρ o) {K : Act → World → Prop} {Q : Exit → Act → World → Prop}
    (hK : ∀ r ∈ L, ∀ j v w', Le i j → AR j r.1 v → Rel w0 j r.2.m.get r.2.n w' → K (a.put o.dst v) w') : o.wpIn (FW rd) 0 P a w K Q := by
  rw [Oper.wpIn_iff hsm]
  have fromL : RanL P w0 (execOp a.eval o) i w L → o.uponIn (FW rd) 0 P a K Q ((execOp a.eval o).run P w) := by
    rintro ⟨r, hr, j, nx, w', h1, h2, h3, h4⟩
    rw [h1]
    rcases h4 with ⟨v, rfl, h5⟩ | ⟨rfl, h5⟩
    · rw [Oper.uponIn_value]; exact hK r hr j v w' h2 h5 h3
    · rw [Oper.uponIn_skip]; exact hK r hr j undef w' h2 h5 h3
  unfold ostep at hs
  split at hs
  · rename_i g xs hc
    obtain ⟨us, h1, h2⟩ := callee_eq (P := P) hT hc
    split at hs
    · rename_i k hk
      split at hs
      · rename_i r hr
        simp at hs
        subst hs
        obtain ⟨v, w', h3, h4, h5⟩ := aext_eq (P := P) hR (hE.x g k hk) h2 (y := r.1) (h' := r.2) hr
        exact fromL ⟨r, List.mem_singleton.2 rfl, i, .value v, w', by rw [h1 w, h3], Le.refl i, h4, .inl ⟨v, rfl, h5⟩⟩
      · cases hs
    · have callK : ∀ {us : Array Value}, (∀ w, (execOp a.eval o).run P w = .ok (.enter g us) w) → CallsIn (FW none) 0 P g us w (CallR w0 i L) → o.uponIn (FW rd) 0 P a K Q ((execOp a.eval o).run P w) := by
        intro us h1 hcall
        rw [h1 w, Oper.uponIn_enter]
        refine ⟨fun h => (by cases h), CallsIn.mono (callsFW hcall rd) fun e w' he => ?_⟩
        obtain ⟨r, hr, j, v, rfl, hj, hv, hR'⟩ := he
        exact hK r hr j v w' hj hv hR'
      split at hs
      · rename_i M hM
        simp at hs
        subst hs
        obtain ⟨⟨⟨fn, c⟩, hg⟩, hcall⟩ := hE.s w0 g xs h M hM
        exact callK (us := us) (fun w => by rw [h1 w, callFunc_run hg]) (hcall i us w h2 hR)
      · have hg : ∃ fn c, fnOk P g = some (fn, c) := by
          unfold acall at hs
          split at hs
          · rename_i fn c M hg hM; exact ⟨fn, c, hg⟩
          · cases hs
        obtain ⟨fn, c, hg⟩ := hg
        exact callK (us := us) (fun w => by rw [h1 w, callFunc_run hg]) (acall_eq hrec hs h2 hR)
  · split at hs
    · rename_i x hx
      simp at hs
      subst hs
      obtain ⟨v, h1, h2⟩ := afree_eq (P := P) hT hx
      exact fromL ⟨_, List.mem_singleton.2 rfl, i, .value v, w, h1 w, Le.refl i, hR, .inl ⟨v, rfl, h2⟩⟩
    · split at hs
      · rename_i x hx
        simp at hs
        subst hs
        obtain ⟨v, h1, h2⟩ := aread_eq (P := P) hT hR hx
        exact fromL ⟨_, List.mem_singleton.2 rfl, i, .value v, w, h1, Le.refl i, hR, .inl ⟨v, rfl, h2⟩⟩
      · split at hs
        · rename_i r hr
          simp at hs
          subst hs
          exact fromL ⟨r, List.mem_singleton.2 rfl, aeff_eq (P := P) hT hR (x := r.1) (h' := r.2) hr⟩
        · split at hs
          · rename_i M hM
            simp at hs
            subst hs
            exact fromL (amore_eq (P := P) hT hR hM)
          · split at hs
            · rename_i b xs hb
              obtain ⟨k, N, us, h1, h2, h3⟩ := yieldC_eq (P := P) hT hb
              obtain ⟨f, tmps, asg, body, h4, h5⟩ := ayield_eq (P := P) hrec hs h1 h3 hR rd
              rw [h2 w, h4, Oper.uponIn_round]
              refine ⟨fun h => (by cases h), RoundIn.mono h5 fun e w' he => ?_⟩
              obtain ⟨r, hr, j, v, rfl, hj, hv, hR'⟩ := he
              exact hK r hr j v w' hj hv hR'
            · cases hs
/- a region in its order -/
theorem wp_Q {F : Fence} {n : Nat} {o : Oper} {a : Act} {w : World} {K : Act → World → Prop} {Q Q' : Exit → Act → World → Prop} (hq : ∀ e a w, Q e a w → Q' e a w) (h : o.wpIn F n P a w K Q) : o.wpIn F n P a w K Q' := by
  unfold Go.Oper.wpIn at *
  refine ⟨h.1, ?_⟩
  have h := h.2
  generalize (o.semAt F.round a.eval).run P w = r at *
  cases r with
  | ok n w' =>
    cases n <;> simp only [Oper.uponIn] at h ⊢ <;> first
      | exact h
      | exact ⟨h.1, CallsIn.mono h.2 (fun e w'' he => by cases e <;> first | exact he | exact hq _ _ _ he | (obtain ⟨a, w, h⟩ := he; exact ⟨a, w, hq _ _ _ h⟩))⟩
      | exact ⟨h.1, RoundIn.mono h.2 (fun e w'' he => by cases e <;> first | exact he | exact hq _ _ _ he | (obtain ⟨a, w, h⟩ := he; exact ⟨a, w, hq _ _ _ h⟩))⟩
  | halt x w' => cases x <;> simp only [Oper.uponIn] at h ⊢ <;> first | exact hq _ _ _ h | exact h
theorem wpList_mono' {F : Fence} {n : Nat} {ops : Array Oper} {Q Q' : Exit → Act → World → Prop} (hq : ∀ e a w, Q e a w → Q' e a w) : ∀ (l : List Oper) (a : Act) (w : World), wpListIn F n P ops Q l a w → wpListIn F n P ops Q' l a w
  | [], a, w, h => hq _ _ _ h
  | o :: l, a, w, h => by
    unfold wpListIn at h ⊢
    split at h
    · rename_i hw
      rw [if_pos hw]
      exact wp_Q (fun e a w => hq e a w) (Oper.wpIn_mono (fun a w => wpList_mono' hq l a w) h)
    · rename_i hw
      rw [if_neg hw]
      exact ⟨h.1, wpList_mono' hq l _ _ h.2⟩

def orun (P : Program) (E : Env) (rec : Rec) (ops : Array Oper) : List Oper → T → Hp → Option (List (T × Hp))
  | [], t, h => some [(t, h)]
  | o :: l, t, h => match want ops t.m o with
    | none => none
    | some false => (match tput t o.dst udf with | some t' => orun P E rec ops l t' h | none => none)
    | some true => (match odef t.m o with
      | some p => (match tput ⟨t.n, t.m, p :: t.d⟩ o.dst udf with | some t' => orun P E rec ops l t' h | none => none)
      | none => (match ostep P E rec t.m h o with
        | some L => bindL L fun r => (match tput t o.dst r.1 with | some t' => orun P E rec ops l t' r.2 | none => none)
        | none => none))
theorem TR.defer {i : Inj} {t : T} {a : Act} (hT : TR i t a) {p : DA} {d : Deferred} (hd : DR i p d) : TR i ⟨t.n, t.m, p :: t.d⟩ { a with defers := d :: a.defers } := ⟨⟨hd, hT.defers⟩, hT.size, hT.slot⟩
theorem wp_defer {rd : Option Nat} {i : Inj} {t : T} {a : Act} {o : Oper} {w : World} {p : DA} (hT : TR i t a) (hp : odef t.m o = some p) (hsm : ∀ ρ, Oper.semAt rd ρ o = execOp ρ o) {K : Act → World → Prop} {Q : Exit → Act → World → Prop} (hK : ∀ a', TR i ⟨t.n, t.m, p :: t.d⟩ a' → K (a'.put o.dst undef) w) : o.wpIn (FW rd) 0 P a w K Q := by
  obtain ⟨d, h1, h2⟩ := odef_eq (P := P) hT hp
  rw [Oper.wpIn_iff hsm, h1 w, Oper.uponIn_defer]
  exact hK _ (hT.defer h2)
theorem orun_eq {rd : Option Nat} {E : Env} (hE : EOk P E) {rec : Rec} (hrec : Sound P rec) {ops : Array Oper} : ∀ (l : List Oper), (∀ o ∈ l, ∀ ρ, Oper.semAt rd ρ o = execOp ρ o) → ∀ (t : T) (h : Hp) (L : List (T × Hp)), orun P E rec ops l t h = some L → ∀ i a w, TR i t a → Rel w0 i h.m.get h.n w → wpListIn (FW rd) 0 P ops (FinN w0 i L) l a w
  | [], _, t, h, L, hh, i, a, w, hT, hR => by
    simp [orun] at hh
    subst hh
    exact ⟨rfl, (t, h), List.mem_singleton.2 rfl, i, Le.refl i, hT, hR⟩
  | o :: l, hl, t, h, L, hh, i, a, w, hT, hR => by
    have hso := hl o (by simp)
    have hl' : ∀ o ∈ l, ∀ ρ, Oper.semAt rd ρ o = execOp ρ o := fun o ho => hl o (by simp [ho])
    refine wpListIn_step fun K hK => ?_
    unfold orun at hh
    split at hh
    · cases hh
    · rename_i hw
      rw [want_eq hT hw]
      simp only [Bool.false_eq_true, if_false]
      split at hh
      · rename_i t' ht
        exact ⟨fun _ _ => trivial, hK _ _ (orun_eq hE hrec l hl' t' h L hh i _ w (tput_eq hT ht (udf_eq i)) hR)⟩
      · cases hh
    · rename_i hw
      rw [want_eq hT hw]
      simp only [if_true]
      split at hh
      · rename_i p hp
        split at hh
        · rename_i t' ht
          exact wp_defer hT hp hso fun a' hT' => hK _ _ (orun_eq hE hrec l hl' t' h L hh i _ w (tput_eq hT' ht (udf_eq i)) hR)
        · cases hh
      · split at hh
        · rename_i M hM
          refine ostep_eq hE hrec hT hR hM hso fun r hr j v w' hj hv hR' => ?_
          obtain ⟨x, hx, hxL⟩ := bindL_eq hh r hr
          split at hx
          · rename_i t' ht
            refine hK _ _ ?_
            have := orun_eq hE hrec l hl' t' r.2 x hx j _ w' (tput_eq (hT.mono hj) ht hv) hR'
            exact wpList_mono' (fun e a w hf => hf.mono hj hxL) l _ _ this
          · cases hx
        · cases hh
end
end R
end Go.Proofs.YtcccdlmngddalaaGreat
