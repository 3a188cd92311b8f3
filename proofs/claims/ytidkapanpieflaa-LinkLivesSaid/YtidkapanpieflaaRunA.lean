/- A run of code, and that what it comes to is what the code comes to. -/
import Derived.Test.YtidkapanpieflaaRunZ
import Derived.Defers
import Derived.RangeFuncRecord
import Derived.LoopNIn
namespace Go.Proofs.Ytidkapanpieflaa
open Go.RowKit
set_option linter.unusedVariables false
set_option linter.unusedSectionVars false
set_option linter.unusedSimpArgs false
namespace R
variable [vl : Val]
/- several ends -/
def bindL {α β : Type} (l : List α) (f : α → Option (List β)) : Option (List β) :=
  match l with
  | [] => some []
  | [a] => f a
  | a :: b :: l => match f a with
    | none => none
    | some x => match bindL (b :: l) f with | none => none | some y => some (x ++ y)
theorem bindL_eq {α β : Type} : ∀ {l : List α} {f : α → Option (List β)} {L : List β}, bindL l f = some L → ∀ a ∈ l, ∃ x, f a = some x ∧ ∀ b ∈ x, b ∈ L
  | [], _, _, _, _, ha => by cases ha
  | [a], f, L, h, b, hb => by
    obtain rfl : b = a := by simpa using hb
    exact ⟨L, h, fun _ h => h⟩
  | a :: b :: l, f, L, h, c, hc => by
    unfold bindL at h
    split at h
    · cases h
    · rename_i x hx
      split at h
      · cases h
      · rename_i y hy
        simp at h
        subst h
        rcases List.mem_cons.1 hc with rfl | hc
        · exact ⟨x, hx, fun _ h => List.mem_append_left _ h⟩
        · obtain ⟨z, h1, h2⟩ := bindL_eq hy c hc
          exact ⟨z, h1, fun q hq => List.mem_append_right _ (h2 q hq)⟩
inductive Ex where
  | normal
  | ex (id : Nat)
  | ret
def exOf : Ex → Exit
  | .normal => .normal
  | .ex id => .exit id
  | .ret => .ret
abbrev Out := Ex × T × Hp
section
variable {P : Program} {w0 : Base}
def Fin (w0 : Base) (i : Inj) (L : List Out) : Exit → Act → World → Prop := fun e a w => ∃ r ∈ L, e = exOf r.1 ∧ ∃ j, Le i j ∧ TR j r.2.1 a ∧ Rel w0 j r.2.2.m.get r.2.2.n w
theorem Fin.mono {i j : Inj} {L M : List Out} (hi : Le i j) (hL : ∀ r ∈ L, r ∈ M) {e : Exit} {a : Act} {w : World} (h : Fin w0 j L e a w) : Fin w0 i M e a w := by
  obtain ⟨r, h1, h2, k, h3, h4⟩ := h
  exact ⟨r, hL r h1, h2, k, hi.trans h3, h4⟩
def FinN (w0 : Base) (i : Inj) (L : List (T × Hp)) : Exit → Act → World → Prop := fun e a w => e = .normal ∧ ∃ r ∈ L, ∃ j, Le i j ∧ TR j r.1 a ∧ Rel w0 j r.2.m.get r.2.n w
theorem FinN.mono {i j : Inj} {L M : List (T × Hp)} (hi : Le i j) (hL : ∀ r ∈ L, r ∈ M) {e : Exit} {a : Act} {w : World} (h : FinN w0 j L e a w) : FinN w0 i M e a w := by
  obtain ⟨h0, r, h1, k, h3, h4⟩ := h
  exact ⟨h0, r, hL r h1, k, hi.trans h3, h4⟩
abbrev Rec := Code → T → Hp → Option (List Out)
/-- nothing here is put off, and no function is ranged over: it may stand in a loop's round -/
def plainO (ops : Array Oper) : Bool := ops.toList.all fun o => match o.op with | .defer _ => false | _ => true
def plainC : Code → Bool
  | .seq x y => plainC x && plainC y
  | .cond _ x y => plainC x && plainC y
  | .block _ c => plainC c
  | .loop c => plainC c
  | .region _ ops _ => plainO ops
  | .rangeFunc _ _ _ _ => false
  | _ => true
theorem sm_of {rd : Option Nat} {ops : Array Oper} (h : rd = none ∨ plainO ops = true) : Sm rd ops := by
  rcases h with rfl | h
  · exact fun _ _ _ _ => rfl
  · intro j o ho ρ
    refine Oper.semAt_eq rd ρ o fun c hc => ?_
    have := List.all_eq_true.1 h o (List.mem_of_getElem? (by simpa using ho))
    rw [hc] at this
    cases this
def Sound (P : Program) (rec : Rec) : Prop := ∀ (w0 : Base) c t h L, rec c t h = some L → ∀ rd, (rd = none ∨ plainC c = true) → ∀ i a w, TR i t a → Rel w0 i h.m.get h.n w → c.wpIn (FW rd) 0 P (Fin w0 i L) a w
theorem callsFW {f : FuncId} {args : Array Value} {w : World} {R : Ending → World → Prop} (h : CallsIn (FW none) 0 P f args w R) (rd : Option Nat) : CallsIn (FW rd) 0 P f args w R := h
theorem calls_FW {f : FuncId} {args : Array Value} {w : World} {R : Ending → World → Prop} (h : CallsIn (FW none) 0 P f args w R) : Calls P f args w R := callsIn_wide.1 (show CallsIn Fence.wide 0 P f args w R from h)
/- calls of functions -/
def fnOk (P : Program) (g : FuncId) : Option (Func × Code) :=
  match P.funcs[g]? with
  | some fn => (match fn.body with | some c => cond (fn.name == "runtime.NumGoroutine") none (some (fn, c)) | none => none)
  | none => none
theorem fnOk_eq {g : FuncId} {fn : Func} {c : Code} (h : fnOk P g = some (fn, c)) : P.funcs[g]? = some fn ∧ fn.body = some c ∧ (fn.name == "runtime.NumGoroutine") = false := by
  unfold fnOk at h
  split at h
  · rename_i fn' hf
    split at h
    · rename_i c' hc
      cases hn : (fn'.name == "runtime.NumGoroutine") with
      | true => simp [hn] at h
      | false => simp [hn] at h; obtain ⟨rfl, rfl⟩ := h; exact ⟨hf, hc, hn⟩
    · cases h
  · cases h
def capA : Cap → AV
  | .x v => .v (.c (.x v))
  | .p b o => .v (.c (.p b o))
theorem capA_eq {i : Inj} : ∀ {l : List Cap} {us : List Value}, LR (CapR i) l us → LR (AR i) (l.map capA) us
  | [], [], _ => trivial
  | c :: l, u :: us, ⟨h1, h2⟩ => ⟨by cases c <;> exact h1, capA_eq h2⟩
def calleeC (t : Tri AV) (c : Call) : Option (FuncId × List AV) :=
  match c.callee with
  | .value f => (match ev t f, evl t c.args.toList with
    | some (.v (.c (.x (.func (.func g) fst cap)))), some xs => gd (Nat.beq fst.size 0 && Nat.beq cap.size 0) (some (g, xs))
    | some (.v (.c (.f g fs cs))), some xs => some (g, fs.map capA ++ xs ++ cs.map capA)
    | _, _ => none)
  | _ => none
def callee (t : Tri AV) (o : Oper) : Option (FuncId × List AV) := match o.op with | .call c => calleeC t c | _ => none
def odef (t : Tri AV) (o : Oper) : Option DA := match o.op with | .defer c => (match calleeC t c with | some (g, xs) => some (.f g xs) | none => none) | _ => none
theorem callFunc_run {g : FuncId} {fn : Func} {c : Code} (h : fnOk P g = some (fn, c)) (args : Array Value) (w : World) : (callFunc g args).run P w = .ok (.enter g args) w := by
  obtain ⟨h1, h2, h3⟩ := fnOk_eq h
  have h3' : ¬ (fn.name = "runtime.NumGoroutine") := by simpa using h3
  simp [callFunc, program, Sem.run, h1, h3', h2]
theorem calleeC_eq {i : Inj} {t : T} {a : Act} {c : Call} {ty : TypeId} {g : FuncId} {xs : List AV} (hT : TR i t a) (h : calleeC t.m c = some (g, xs)) :
    ∃ caps args : Array Value, resolve a.eval c ty = pure { target := .fn (.func g) caps, args := args } ∧ LR (AR i) xs (args ++ caps).toList := by
  unfold calleeC at h
  obtain ⟨cal, args, ats⟩ := c
  split at h
  · rename_i f hc
    dsimp only at hc
    subst hc
    split at h
    · rename_i g' fst cap ys' hf hys
      simp only [gd_eq, Bool.and_eq_true] at h
      obtain ⟨⟨h1, h2⟩, h⟩ := h
      simp at h
      obtain ⟨rfl, rfl⟩ := h
      have h1 := beq_of h1
      have h2 := beq_of h2
      obtain rfl : fst = #[] := by simpa using h1
      obtain rfl : cap = #[] := by simpa using h2
      have hv := (ev_eq hT hf).1
      exact ⟨#[], args.map a.eval, by simp [resolve, hv, Deferred.ofValue], by simpa using evl_eq hT hys⟩
    · rename_i g' fs cs ys' hf hys
      simp only [Option.some.injEq, Prod.mk.injEq] at h
      obtain ⟨rfl, rfl⟩ := h
      obtain ⟨vs, us, hv, hvs, hus⟩ := ev_eq hT hf
      exact ⟨us, vs ++ args.map a.eval, by simp [resolve, hv, Deferred.ofValue], by rw [Array.toList_append, Array.toList_append]; exact LR.app (LR.app (capA_eq hvs) (by simpa using evl_eq hT hys)) (capA_eq hus)⟩
    · cases h
  · cases h
theorem callee_eq {i : Inj} {t : T} {a : Act} {o : Oper} {g : FuncId} {xs : List AV} (hT : TR i t a) (h : callee t.m o = some (g, xs)) :
    ∃ us : Array Value, (∀ w, (execOp a.eval o).run P w = (callFunc g us).run P w) ∧ LR (AR i) xs us.toList := by
  unfold callee at h
  split at h
  · rename_i c ho
    obtain ⟨caps, args, h1, h2⟩ := calleeC_eq (ty := o.type) hT h
    exact ⟨args ++ caps, fun w => by simp [execOp, ho, h1, invoke], h2⟩
  · cases h
theorem odef_eq {i : Inj} {t : T} {a : Act} {o : Oper} {p : DA} (hT : TR i t a) (h : odef t.m o = some p) : ∃ d, (∀ w, (execOp a.eval o).run P w = .ok (.defer d) w) ∧ DR i p d := by
  unfold odef at h
  split at h
  · rename_i c ho
    split at h
    · rename_i g xs hg
      simp at h
      subst h
      obtain ⟨caps, args, h1, h2⟩ := calleeC_eq (ty := o.type) hT hg
      exact ⟨{ target := .fn (.func g) caps, args := args }, fun w => by simp [execOp, ho, h1], caps, rfl, h2⟩
    · cases h
  · cases h
def argsT : List AV → Nat → Tri AV → Option (Tri AV)
  | [], _, t => some t
  | c :: l, o, t => match t.set 64 o c with | none => none | some t' => argsT l (o + 1) t'
theorem argsT_eq : ∀ (l : List AV) (o : Nat) (t t' : Tri AV), argsT l o t = some t' → ∀ j, t'.get j = if o ≤ j ∧ j < o + l.length then l[j - o]? else t.get j
  | [], o, t, t', h, j => by simp [argsT] at h; subst h; rw [if_neg (by simp)]
  | c :: l, o, t, t', h, j => by
    simp only [argsT] at h
    split at h
    · cases h
    · rename_i t1 ht
      rw [argsT_eq l (o + 1) t1 t' h j, Tri.get_set _ _ _ _ _ ht]
      by_cases e : j = o
      · subst e
        rw [if_neg (by omega), if_pos rfl, if_pos (by simp)]
        simp
      · rw [if_neg e]
        by_cases e2 : o + 1 ≤ j ∧ j < o + 1 + l.length
        · rw [if_pos e2, if_pos (by simp; omega), show j - o = (j - (o + 1)) + 1 by omega]
          simp
        · rw [if_neg e2, if_neg (by simp; omega)]
def enter (fn : Func) (xs : List AV) : Option T := match argsT xs 0 .e with | some m => wNat (xs.length + (fn.ntmps - xs.length)) fun n => some ⟨n, m, []⟩ | none => none
theorem enter_eq {i : Inj} {fn : Func} {xs : List AV} {us : Array Value} {t : T} (h : enter fn xs = some t) (hl : LR (AR i) xs us.toList) : TR i t { tmps := us ++ Array.replicate (fn.ntmps - us.size) undef, defers := [] } := by
  unfold enter at h
  split at h
  · rename_i m hm
    simp at h
    subst h
    have hlen := hl.len
    simp at hlen
    refine ⟨trivial, by simp [hlen], fun s x hs => ?_⟩
    dsimp only at hs
    rw [argsT_eq _ _ _ _ hm] at hs
    split at hs
    · rename_i hlt
      simp at hs
      obtain ⟨u, h1, h2⟩ := hl.get s x hs
      have h1' : us[s]? = some u := by simpa using h1
      have hsz := (Array.getElem?_eq_some_iff.1 h1').1
      have : (us ++ Array.replicate (fn.ntmps - us.size) undef).getD s undef = u := by
        rw [Array.getD_eq_getD_getElem?, Array.getElem?_append_left hsz, h1']
        rfl
      simpa [this] using h2
    · simp [Tri.get] at hs
  · cases h
def resl (P : Program) (t : Tri AV) (h : Hp) : List ResultVar → Option (List AV)
  | [] => some []
  | .tmp s :: l => (match t.get s, resl P t h l with | some x, some m => some (x :: m) | _, _ => none)
  | .cell s ty :: l => (match t.get s with
    | some (.v (.c (.p b o))) => (match aLoad P h ty b o, resl P t h l with | some x, some m => some (x :: m) | _, _ => none)
    | _ => none)
def resSem (a : Act) (r : ResultVar) : Sem Value := match r with | .tmp t => pure (a.tmps.getD t undef) | .cell s ty => do loadVar ty (← asAddr (a.tmps.getD s undef))
theorem resSem_tmp (a : Act) (s : Tmp) (w : World) : (resSem a (.tmp s)).run P w = .ok (a.tmps.getD s undef) w := rfl
theorem resSem_cell {a : Act} {s : Tmp} {ty : TypeId} {w : World} {p : Addr} {v : Value} (h1 : a.tmps.getD s undef = .pointer (some p)) (h2 : (loadVar ty p).run P w = .ok v w) : (resSem a (.cell s ty)).run P w = .ok v w := by
  simp only [resSem, h1, asAddr, Sem.run_bind, Sem.run_pure, Result.andThen_ok, h2]
theorem resl_eq {i : Inj} {t : T} {h : Hp} {a : Act} {w : World} (hT : TR i t a) (hR : Rel w0 i h.m.get h.n w) : ∀ (l : List ResultVar) (m : List AV), resl P t.m h l = some m →
    ∃ us : List Value, (l.mapM (resSem a)).run P w = .ok us w ∧ LR (AR i) m us
  | [], m, hh => by simp [resl] at hh; subst hh; exact ⟨[], rfl, trivial⟩
  | .tmp s :: l, m, hh => by
    simp only [resl] at hh
    split at hh
    · rename_i x m' hx hm
      simp at hh
      subst hh
      obtain ⟨us, h1, h2⟩ := resl_eq hT hR l m' hm
      exact ⟨_ :: us, by simp only [List.mapM_cons, Sem.run_bind, resSem_tmp, Result.andThen_ok, h1, Sem.run_pure], hT.slot s x hx, h2⟩
    · cases hh
  | .cell s ty :: l, m, hh => by
    simp only [resl] at hh
    split at hh
    · rename_i b o hb
      split at hh
      · rename_i x m' hx hm
        simp at hh
        subst hh
        obtain ⟨us, h1, h2⟩ := resl_eq hT hR l m' hm
        obtain ⟨k, N, h3, h4⟩ := hT.slot s _ hb
        obtain ⟨v, h5, h6⟩ := aLoad_eq (P := P) hR h3 hx
        refine ⟨v :: us, ?_, h6, h2⟩
        simp only [List.mapM_cons, Sem.run_bind, resSem_cell h4 h5, Result.andThen_ok, h1, Sem.run_pure]
      · cases hh
    · cases hh
def all1 : List AV → Option (List V1)
  | [] => some []
  | .v x :: l => (match all1 l with | some m => some (x :: m) | none => none)
  | .t _ :: _ => none
theorem all1_eq {i : Inj} : ∀ {l : List AV} {m : List V1} {us : List Value}, all1 l = some m → LR (AR i) l us → LR (V1R i) m us
  | [], m, [], h, _ => by simp [all1] at h; subst h; trivial
  | .v x :: l, m, u :: us, h, ⟨h1, h2⟩ => by
    simp only [all1] at h
    split at h
    · rename_i m' hm; simp at h; subst h; exact ⟨h1, all1_eq hm h2⟩
    · cases h
  | .t _ :: _, _, _ :: _, h, _ => by simp [all1] at h
  | [], _, _ :: _, _, h => h.elim
  | _ :: _, _, [], _, h => h.elim
def aRes (P : Program) (fn : Func) (t : Tri AV) (h : Hp) : Option AV :=
  match resl P t h fn.results.toList with
  | some [x] => some x
  | some l => (match all1 l with | some m => some (.t m) | none => none)
  | none => none
theorem aRes_eq {i : Inj} {fn : Func} {t : T} {h : Hp} {a : Act} {w : World} {x : AV} (hT : TR i t a) (hR : Rel w0 i h.m.get h.n w) (hx : aRes P fn t.m h = some x) : ∃ v, (results fn a.tmps).run P w = .ok v w ∧ AR i x v := by
  have hrun : ∀ us : List Value, (fn.results.toList.mapM (resSem a)).run P w = .ok us w →
      (results fn a.tmps).run P w = .ok (if h : us.toArray.size = 1 then us.toArray[0] else .tuple us.toArray) w := by
    intro us hus
    have e : results fn a.tmps = (do let vs ← fn.results.mapM (resSem a); pure (if h : vs.size = 1 then vs[0] else .tuple vs)) := rfl
    rw [e, Array.mapM_eq_mapM_toList]
    simp only [Sem.run_bind, Sem.run_map, hus, Result.andThen_ok, Sem.run_pure]
  unfold aRes at hx
  split at hx
  · rename_i y hy
    simp at hx
    subst hx
    obtain ⟨us, h1, h2⟩ := resl_eq (P := P) hT hR _ _ hy
    match us, h2 with
    | [u], ⟨h3, _⟩ => exact ⟨u, by rw [hrun _ h1]; simp, h3⟩
  · rename_i l hne hl
    split at hx
    · rename_i m hm
      simp at hx
      subst hx
      obtain ⟨us, h1, h2⟩ := resl_eq (P := P) hT hR _ _ hl
      refine ⟨.tuple us.toArray, ?_, us.toArray, rfl, by simpa using all1_eq hm h2⟩
      rw [hrun _ h1, dif_neg]
      intro h3
      have := h2.len
      simp at h3
      have h5 : us.length = 1 := by simpa using h3
      have h6 : l.length = 1 := by omega
      obtain ⟨z, rfl⟩ := List.length_eq_one_iff.1 h6
      exact hne z rfl
    · cases hx
  · cases hx
/-- a function's body -/
def abody (P : Program) (rec : Rec) (g : FuncId) (xs : List AV) (h : Hp) : Option (List (T × Hp)) :=
  match fnOk P g with
  | some (fn, c) => (match enter fn xs with
    | some t => (match rec c t h with
      | some L => bindL L fun r => (match r.1 with | .ex _ => none | _ => some [r.2])
      | none => none)
    | none => none)
  | none => none
/-- .. that puts nothing off -/
def acall0 (P : Program) (rec : Rec) (g : FuncId) (xs : List AV) (h : Hp) : Option (List (AV × Hp)) :=
  match fnOk P g, abody P rec g xs h with
  | some (fn, _), some L => bindL L fun r => (match r.1.d with
    | [] => (match aRes P fn r.1.m r.2 with | some x => some [(x, r.2)] | none => none)
    | _ :: _ => none)
  | _, _ => none
def leave (P : Program) (rec : Rec) (fn : Func) (t : Tri AV) : List DA → Hp → Option (List (AV × Hp))
  | [], h => (match aRes P fn t h with | some x => some [(x, h)] | none => none)
  | .f g xs :: ds, h => (match acall0 P rec g xs h with | some L => bindL L fun r => leave P rec fn t ds r.2 | none => none)
  | .m b :: ds, h => (match h.m.get b with
    | some (.df true) => (match setH h b .d with | some h' => leave P rec fn t ds h' | none => none)
    | _ => none)
def acall (P : Program) (rec : Rec) (g : FuncId) (xs : List AV) (h : Hp) : Option (List (AV × Hp)) :=
  match fnOk P g, abody P rec g xs h with
  | some (fn, _), some L => (match bindL L fun r => leave P rec fn r.1.m r.1.d r.2 with | some M => merge h.n M | none => none)
  | _, _ => none
def CallR (w0 : Base) (i : Inj) (L : List (AV × Hp)) : Ending → World → Prop := fun e w => ∃ r ∈ L, ∃ j v, e = .returned v ∧ Le i j ∧ AR j r.1 v ∧ Rel w0 j r.2.m.get r.2.n w
theorem CallR.mono {i j : Inj} {L M : List (AV × Hp)} (hi : Le i j) (hL : ∀ r ∈ L, r ∈ M) {e : Ending} {w : World} (h : CallR w0 j L e w) : CallR w0 i M e w := by
  obtain ⟨r, h1, k, v, h2, h3, h4⟩ := h
  exact ⟨r, hL r h1, k, v, h2, hi.trans h3, h4⟩
theorem CallR.merge {i : Inj} {L M : List (AV × Hp)} {g : Nat → Option AO} {n : Nat} {w1 : World} (hR : Rel w0 i g n w1) (hm : R.merge n L = some M) {e : Ending} {w : World} (h : CallR w0 i L e w) : CallR w0 i M e w := by
  obtain ⟨r, hr, j, v, rfl, hj, hv, hR'⟩ := h
  obtain ⟨x, hx, rfl | hs⟩ := merge_eq hm r hr
  · exact ⟨x, hx, j, v, rfl, hj, hv, hR'⟩
  · obtain ⟨j', g1, g2, g3⟩ := sim_eq hs hR.dom (fun b hb => (hR.gh b hb).1) hj hR' hv
    exact ⟨x, hx, j', v, rfl, g1, g2, g3⟩
theorem abody_eq {rec : Rec} (hrec : Sound P rec) {g : FuncId} {xs : List AV} {h : Hp} {L : List (T × Hp)} {fn : Func} {c : Code} (hg : fnOk P g = some (fn, c)) (hc : abody P rec g xs h = some L) {i : Inj} {us : Array Value} {w : World} (hl : LR (AR i) xs us.toList) (hR : Rel w0 i h.m.get h.n w) :
    c.wpIn (FW none) 0 P (fun e a w => (e = .normal ∨ e = .ret) ∧ ∃ r ∈ L, ∃ j, Le i j ∧ TR j r.1 a ∧ Rel w0 j r.2.m.get r.2.n w) { tmps := us ++ Array.replicate (fn.ntmps - us.size) undef, defers := [] } w := by
  unfold abody at hc
  rw [hg] at hc
  dsimp only at hc
  split at hc
  · rename_i t ht
    split at hc
    · rename_i M hM
      refine wpIn_mono (hrec w0 c t h M hM none (.inl rfl) i _ w (enter_eq ht hl) hR) fun e a' w' hf => ?_
      obtain ⟨r, hr, he, j, hj, hT, hR'⟩ := hf
      obtain ⟨x, hx, hxL⟩ := bindL_eq hc r hr
      obtain ⟨e', t', h'⟩ := r
      subst he
      cases e' with
      | ex id => simp at hx
      | normal => simp at hx; subst hx; exact ⟨.inl rfl, (t', h'), hxL _ (List.mem_singleton.2 rfl), j, hj, hT, hR'⟩
      | ret => simp at hx; subst hx; exact ⟨.inr rfl, (t', h'), hxL _ (List.mem_singleton.2 rfl), j, hj, hT, hR'⟩
    · cases hc
  · cases hc
theorem acall0_eq {rec : Rec} (hrec : Sound P rec) {g : FuncId} {xs : List AV} {h : Hp} {L : List (AV × Hp)} (hc : acall0 P rec g xs h = some L) {i : Inj} {us : Array Value} {w : World} (hl : LR (AR i) xs us.toList) (hR : Rel w0 i h.m.get h.n w) :
    ∃ fn c, fnOk P g = some (fn, c) ∧ c.wpIn (FW none) 0 P (bodyPost P fn (CallR w0 i L)) { tmps := us ++ Array.replicate (fn.ntmps - us.size) undef, defers := [] } w := by
  unfold acall0 at hc
  split at hc
  · rename_i fn c M hg hM
    refine ⟨fn, c, hg, wpIn_mono (abody_eq hrec hg hM hl hR) fun e a' w' hf => ?_⟩
    obtain ⟨he, r, hr, j, hj, hT, hR'⟩ := hf
    obtain ⟨x, hx, hxL⟩ := bindL_eq hc r hr
    split at hx
    · rename_i hd
      split at hx
      · rename_i y hy
        simp at hx
        subst hx
        obtain ⟨v, h3, h4⟩ := aRes_eq (P := P) hT hR' hy
        have hde : a'.defers = [] := by
          have := hT.defers
          rw [hd] at this
          cases hq : a'.defers with
          | nil => rfl
          | cons _ _ => rw [hq] at this; exact this.elim
        have fin : a'.defers = [] ∧ ∃ v, (results fn a'.tmps).run P w' = .ok v w' ∧ CallR w0 i L (.returned v) w' := ⟨hde, v, h3, (y, r.2), hxL _ (List.mem_singleton.2 rfl), j, v, rfl, hj, h4, hR'⟩
        rcases he with rfl | rfl <;> exact fin
      · cases hx
    · cases hx
  · cases hc
theorem leavesM_mono {fn : Func} {tmps : Array Value} {R R' : Ending → World → Prop} (hq : ∀ e w, R e w → R' e w) : ∀ (ds : List Deferred) (u : FrameMode) (w : World), LeavesInM (FW none) 0 P fn tmps R ds u w → LeavesInM (FW none) 0 P fn tmps R' ds u w
  | [], .returning, w, ⟨v, h1, h2⟩ => ⟨v, h1, hq _ _ h2⟩
  | [], .panicking _, w, h => hq _ _ h
  | [], .run, w, h => h.elim
  | d :: ds, u, w, ⟨h1, .inl ⟨r, w', h2, h3, h4⟩⟩ => ⟨h1, .inl ⟨r, w', h2, h3, leavesM_mono hq ds _ _ h4⟩⟩
  | d :: ds, u, w, ⟨h1, .inr ⟨h2, fv, cap, f, args, h3, h4, h5, h6⟩⟩ => ⟨h1, .inr ⟨h2, fv, cap, f, args, h3, h4, h5, CallsDIn.mono h6 fun e u' w' he => by
      cases e with
      | returned v => exact leavesM_mono hq ds _ _ he
      | panicked c => exact leavesM_mono hq ds _ _ he
      | outgrown => exact hq _ _ he⟩⟩
theorem leave_eq {rec : Rec} (hrec : Sound P rec) {fn : Func} {t : T} {a : Act} : ∀ (ds : List DA) (h : Hp) (L : List (AV × Hp)), leave P rec fn t.m ds h = some L → ∀ (es : List Deferred) (i : Inj) (w : World), TR i t a → LR (DR i) ds es → Rel w0 i h.m.get h.n w →
    LeavesInM (FW none) 0 P fn a.tmps (CallR w0 i L) es .returning w
  | [], h, L, hh, [], i, w, hT, _, hR => by
    unfold leave at hh
    split at hh
    · rename_i x hx
      simp at hh
      subst hh
      obtain ⟨v, h3, h4⟩ := aRes_eq (P := P) hT hR hx
      exact ⟨v, h3, (x, h), List.mem_singleton.2 rfl, i, v, rfl, Le.refl i, h4, hR⟩
    · cases hh
  | .f g xs :: ds, h, L, hh, d :: es, i, w, hT, ⟨⟨caps, h1, h2⟩, h3⟩, hR => by
    unfold leave at hh
    split at hh
    · rename_i M hM
      obtain ⟨fn', c, hg, hwp⟩ := acall0_eq hrec hM h2 hR
      obtain ⟨f1, f2, _⟩ := fnOk_eq hg
      obtain ⟨tg, args⟩ := d
      dsimp only at h1
      subst h1
      refine ⟨by simp, .inr ⟨fun h => (by cases h), .func g, caps, g, args ++ caps, rfl, by simp [invoke, callFunc_run hg], fun _ _ => trivial, CallsDIn.mono (callsDIn_of_wp f1 f2 trivial hwp) fun e u' w' hq => ?_⟩⟩
      obtain ⟨rfl, r, hr, j, v, rfl, hj, _, hR'⟩ := hq
      obtain ⟨x, hx, hxL⟩ := bindL_eq hh r hr
      have := leave_eq hrec ds r.2 x hx es j w' (hT.mono hj) (h3.imp fun _ _ h4 => h4.mono hj) hR'
      show LeavesInM (FW none) 0 P fn a.tmps (CallR w0 i L) es (settle .returning) w'
      exact leavesM_mono (fun e w hc => hc.mono hj hxL) es _ _ this
    · cases hh
  | .m b :: ds, h, L, hh, d :: es, i, w, hT, ⟨⟨k, N, h1, h2⟩, h3⟩, hR => by
    unfold leave at hh
    split at hh
    · rename_i hb
      split at hh
      · rename_i h' hs
        obtain ⟨ob, h4, h5⟩ := hR.obj b _ k N hb h1
        have h5' : ob = .deferred (some []) := h5
        subst h5'
        obtain ⟨q1, q2⟩ := setH_eq hs
        have hR' := hR.setObj hb (by simp) h1 (o' := .d) (ob := .deferred none) trivial
        rw [← q1, ← q2] at hR'
        exact ⟨by simp, .inl ⟨k, _, h2, run_takeDeferred h4, leave_eq hrec ds h' L hh es i _ hT h3 hR'⟩⟩
      · cases hh
    · cases hh
  | [], _, _, _, _ :: _, _, _, _, h, _ => h.elim
  | _ :: _, _, _, _, [], _, _, _, h, _ => h.elim
theorem acall_eq {rec : Rec} (hrec : Sound P rec) {g : FuncId} {xs : List AV} {h : Hp} {L : List (AV × Hp)} (hc : acall P rec g xs h = some L) {i : Inj} {us : Array Value} {w : World} (hl : LR (AR i) xs us.toList) (hR : Rel w0 i h.m.get h.n w) :
    CallsIn (FW none) 0 P g us w (CallR w0 i L) := by
  unfold acall at hc
  split at hc
  · rename_i fn c M hg hM
    split at hc
    · rename_i M1 hM1
      obtain ⟨f1, f2, _⟩ := fnOk_eq hg
      refine CallsIn.mono (callsIn_of_wp_marks (R := CallR w0 i M1) f1 f2 trivial (wpIn_mono (abody_eq hrec hg hM hl hR) fun e a' w' hf => ?_)) fun e w' he => he.merge hR hc
      obtain ⟨he, r, hr, j, hj, hT, hR'⟩ := hf
      obtain ⟨x, hx, hxL⟩ := bindL_eq hM1 r hr
      have := leave_eq hrec r.1.d r.2 x hx a'.defers j w' hT hT.defers hR'
      have fin := leavesM_mono (P := P) (fun e w (hc : CallR w0 j x e w) => hc.mono hj hxL) _ _ _ this
      rcases he with rfl | rfl <;> exact fin
    · cases hc
  · cases hc
/- a loop over a function: its yield, called -/
def yieldC (t : Tri AV) (o : Oper) : Option (Nat × List AV) :=
  match o.op with
  | .call c => (match c.callee with
    | .value f => (match ev t f, evl t c.args.toList with | some (.v (.c (.y b))), some xs => some (b, xs) | _, _ => none)
    | _ => none)
  | _ => none
theorem yieldC_eq {i : Inj} {t : T} {a : Act} {o : Oper} {b : Nat} {xs : List AV} (hT : TR i t a) (h : yieldC t.m o = some (b, xs)) :
    ∃ (k N : Nat) (us : Array Value), i b = some (k, N) ∧ (∀ w, (execOp a.eval o).run P w = (Instr.yield k us).run P w) ∧ LR (AR i) xs us.toList := by
  unfold yieldC at h
  split at h
  · rename_i c ho
    obtain ⟨cal, args, ats⟩ := c
    split at h
    · rename_i f hc
      dsimp only at hc
      subst hc
      split at h
      · rename_i b' ys hf hys
        simp at h
        obtain ⟨rfl, rfl⟩ := h
        obtain ⟨k, N, h1, h2⟩ := ev_eq hT hf
        refine ⟨k, N, args.map a.eval, h1, fun w => ?_, by simpa using evl_eq hT hys⟩
        simp [execOp, ho, resolve, h2, Deferred.ofValue, invoke]
      · cases h
    · cases h
  · cases h
def putsT (n : Nat) : List Tmp → List AV → Tri AV → Option (Tri AV)
  | [], [], m => some m
  | p :: ps, x :: xs, m => gd (Nat.blt p n) (match m.set 64 p x with | some m' => putsT n ps xs m' | none => none)
  | _, _, _ => none
theorem putsT_eq {i : Inj} {n : Nat} : ∀ (ps : List Tmp) (xs : List AV) (m m' : Tri AV), putsT n ps xs m = some m' → ∀ (us : List Value) (tmps : Array Value), LR (AR i) xs us → tmps.size = n → (∀ s x, m.get s = some x → AR i x (tmps.getD s undef)) →
    us.length = ps.length ∧ ((ps.zip us).foldl (fun tmps (t, a) => tmps.setIfInBounds t a) tmps).size = n ∧ ∀ s x, m'.get s = some x → AR i x (((ps.zip us).foldl (fun tmps (t, a) => tmps.setIfInBounds t a) tmps).getD s undef)
  | [], [], m, m', h, [], tmps, _, hs, ht => by simp [putsT] at h; subst h; exact ⟨rfl, hs, ht⟩
  | p :: ps, x :: xs, m, m', h, u :: us, tmps, ⟨h1, h2⟩, hs, ht => by
    simp only [putsT, gd_eq] at h
    obtain ⟨hb, h⟩ := h
    split at h
    · rename_i m1 hm
      have hd : p < tmps.size := by rw [hs]; simpa [Nat.blt_eq] using hb
      have hg := Tri.get_set _ _ _ _ _ hm
      obtain ⟨g1, g2, g3⟩ := putsT_eq ps xs m1 m' h us (tmps.setIfInBounds p u) h2 (by simpa using hs) fun s y hy => by
        rw [hg] at hy
        split at hy
        · rename_i e
          subst e
          simp at hy
          subst hy
          simpa [Array.getD, hd] using h1
        · rename_i e
          have := ht s y hy
          simpa [Array.getElem?_setIfInBounds_ne (Ne.symm e)] using this
      exact ⟨by simp [g1], g2, g3⟩
    · cases h
  | [], [], _, _, _, _ :: _, _, h, _, _ => h.elim
  | [], _ :: _, _, _, h, _, _, _, _, _ => by simp [putsT] at h
  | _ :: _, [], _, _, h, _, _, _, _, _ => by simp [putsT] at h
  | _ :: _, _ :: _, _, _, _, [], _, h, _, _ => h.elim
def setLo (h : Hp) (b : Nat) (st : LoopState) (pend : Option Code) : Option Hp :=
  match h.m.get b with
  | some (.lo _ _ n m ps asg body D) => setH h b (.lo st pend n m ps asg body D)
  | _ => none
def readyLo (h : Hp) (b : Nat) : Option Hp :=
  match h.m.get b with
  | some (.lo .ready p n m ps asg body D) => setH h b (.lo .busy p n m ps asg body D)
  | _ => none
theorem setLo_eq {i : Inj} {h h' : Hp} {w : World} {b k N : Nat} {st : LoopState} {pend : Option Code} (hR : Rel w0 i h.m.get h.n w) (hi : i b = some (k, N)) (hs : setLo h b st pend = some h') :
    ∃ r : Loop, w.heap[k]? = some (.loop r) ∧ Rel w0 i h'.m.get h'.n (w.putObj k (.loop { r with state := st, pending := pend })) := by
  unfold setLo at hs
  split at hs
  · rename_i st0 p0 n m ps asg body D hb
    obtain ⟨ob, h1, r, rfl, e1, e2, e3, e4, e5, e6, e7, e8⟩ := hR.obj b _ k N hb hi
    obtain ⟨q1, q2⟩ := setH_eq hs
    refine ⟨r, h1, ?_⟩
    rw [q1, q2]
    exact hR.setObj hb (by simp) hi (o' := .lo st pend n m ps asg body D) ⟨_, rfl, rfl, rfl, e3, e4, e5, e6, e7, e8⟩
  · cases hs
theorem readyLo_eq {i : Inj} {h h' : Hp} {w : World} {b k N : Nat} (hR : Rel w0 i h.m.get h.n w) (hi : i b = some (k, N)) (hs : readyLo h b = some h') :
    ∃ w', (Instr.beginRound k).run P w = .ok () w' ∧ Rel w0 i h'.m.get h'.n w' := by
  unfold readyLo at hs
  split at hs
  · rename_i p0 n m ps asg body D hb
    obtain ⟨ob, h1, r, rfl, e1, e2, e3, e4, e5, e6, e7, e8⟩ := hR.obj b _ k N hb hi
    obtain ⟨q1, q2⟩ := setH_eq hs
    refine ⟨_, run_beginRound h1 e1, ?_⟩
    rw [q1, q2]
    exact hR.setObj hb (by simp) hi (o' := .lo .busy p0 n m ps asg body D) ⟨_, rfl, rfl, e2, e3, e4, e5, e6, e7, e8⟩
  · cases hs
def endR (b : Nat) (q : Out) : Option (List (AV × Hp)) :=
  match q.1 with
  | .normal => (match setLo q.2.2 b .ready none with | some h => some [(.v (.c (.x (.bool true))), h)] | none => none)
  | .ret => (match setLo q.2.2 b .done (some .ret) with | some h => some [(.v (.c (.x (.bool false))), h)] | none => none)
  | .ex id => (match setLo q.2.2 b .done (some (.exit id)) with | some h => some [(.v (.c (.x (.bool false))), h)] | none => none)
def ayield (rec : Rec) (b : Nat) (xs : List AV) (h : Hp) : Option (List (AV × Hp)) :=
  match h.m.get b with
  | some (.lo .ready _ n m ps asg body _) => gd (plainC asg && plainC body) (match putsT n ps xs m with
    | some m' => (match rec asg ⟨n, m', []⟩ h with
      | some L => bindL L fun r => (match r.1 with
        | .normal => (match readyLo r.2.2 b with
          | some h1 => (match rec body r.2.1 h1 with
            | some M => bindL M fun q => endR b q
            | none => none)
          | none => none)
        | _ => none)
      | none => none)
    | none => none)
  | _ => none
theorem ayield_eq {rec : Rec} (hrec : Sound P rec) {b : Nat} {xs : List AV} {h : Hp} {L : List (AV × Hp)} (hc : ayield rec b xs h = some L) {i : Inj} {us : Array Value} {w : World} {k N : Nat} (hi : i b = some (k, N)) (hl : LR (AR i) xs us.toList) (hR : Rel w0 i h.m.get h.n w) (rd : Option Nat) :
    ∃ f tmps asg body, (Instr.yield k us).run P w = .ok (.round k f tmps asg body) w ∧ RoundIn (FW rd) 0 P k f tmps asg body w (CallR w0 i L) := by
  unfold ayield at hc
  split at hc
  · rename_i p0 n m ps asg body D hb
    rw [gd_eq] at hc
    obtain ⟨hp, hc⟩ := hc
    simp only [Bool.and_eq_true] at hp
    split at hc
    · rename_i m' hm
      split at hc
      · rename_i M hM
        obtain ⟨ob, h1, r, rfl, e1, e2, e3, e4, e5, e6, e7, e8⟩ := hR.obj b _ k N hb hi
        obtain ⟨g1, g2, g3⟩ := putsT_eq ps xs m m' hm us.toList r.tmps hl e7 e8
        have hy := run_yield (P := P) (args := us) h1 (by rw [e3]; simpa using g1)
        refine ⟨_, _, _, _, hy, roundIn_of_wpIn trivial ?_⟩
        have et : (r.params.zip us).foldl (fun tmps (x : Tmp × Value) => tmps.setIfInBounds x.1 x.2) r.tmps = (ps.zip us.toList).foldl (fun tmps (x : Tmp × Value) => tmps.setIfInBounds x.1 x.2) r.tmps := by
          rw [e3, ← Array.foldl_toList, Array.toList_zip]
        have hT : TR i ⟨n, m', []⟩ { tmps := (r.params.zip us).foldl (fun tmps (x : Tmp × Value) => tmps.setIfInBounds x.1 x.2) r.tmps, defers := [] } := by
          rw [et]
          exact ⟨trivial, g2, g3⟩
        rw [e4, e5]
        refine wpIn_mono (hrec w0 asg ⟨n, m', []⟩ h M hM (some k) (.inr hp.1) i _ w hT hR) fun e a' w' hf => ?_
        obtain ⟨r1, hr1, rfl, j, hj, hT1, hR1⟩ := hf
        obtain ⟨x, hx, hxL⟩ := bindL_eq hc r1 hr1
        obtain ⟨e', t', h'⟩ := r1
        cases e' with
        | ex id => simp at hx
        | ret => simp at hx
        | normal =>
          dsimp only at hx
          split at hx
          · rename_i h2 hh2
            split at hx
            · rename_i M2 hM2
              obtain ⟨w2, b1, b2⟩ := readyLo_eq (P := P) hR1 (hj _ _ hi) hh2
              refine ⟨w2, b1, wpIn_mono (hrec w0 body t' h2 M2 hM2 (some k) (.inr hp.2) j _ w2 hT1 b2) fun e a3 w3 hf => ?_⟩
              obtain ⟨r2, hr2, rfl, j2, hj2, hT2, hR2⟩ := hf
              obtain ⟨y, hy2, hyL⟩ := bindL_eq hx r2 hr2
              obtain ⟨e2, t2, h3⟩ := r2
              unfold endR at hy2
              dsimp only at hy2 hR2 hT2
              have hi2 := hj2 _ _ (hj _ _ hi)
              cases e2 with
              | normal =>
                dsimp only at hy2
                split at hy2
                · rename_i h4 hh4
                  simp at hy2
                  subst hy2
                  obtain ⟨r5, l1, l2⟩ := setLo_eq hR2 hi2 hh4
                  exact ⟨_, _, run_endRound none l1, (.v (.c (.x (.bool true))), h4), hxL _ (hyL _ (List.mem_singleton.2 rfl)), j2, _, rfl, hj.trans hj2, ⟨rfl, rfl⟩, l2⟩
                · cases hy2
              | ret =>
                dsimp only at hy2
                split at hy2
                · rename_i h4 hh4
                  simp at hy2
                  subst hy2
                  obtain ⟨r5, l1, l2⟩ := setLo_eq hR2 hi2 hh4
                  exact ⟨_, _, run_endRound (some .ret) l1, (.v (.c (.x (.bool false))), h4), hxL _ (hyL _ (List.mem_singleton.2 rfl)), j2, _, rfl, hj.trans hj2, ⟨rfl, rfl⟩, l2⟩
                · cases hy2
              | ex id =>
                dsimp only at hy2
                split at hy2
                · rename_i h4 hh4
                  simp at hy2
                  subst hy2
                  obtain ⟨r5, l1, l2⟩ := setLo_eq hR2 hi2 hh4
                  exact ⟨_, _, run_endRound (some (.exit id)) l1, (.v (.c (.x (.bool false))), h4), hxL _ (hyL _ (List.mem_singleton.2 rfl)), j2, _, rfl, hj.trans hj2, ⟨rfl, rfl⟩, l2⟩
                · cases hy2
            · cases hx
          · cases hx
      · cases hc
    · cases hc
  · cases hc
/- guards -/
def want (ops : Array Oper) (t : Tri AV) (o : Oper) : Option Bool :=
  match o.guard with
  | none => some true
  | some (j, b) => (match ops[j]? with
    | none => some false
    | some oj => (match oj.dst with
      | none => some false
      | some d => (match t.get d with
        | some (.v (.c (.x (.bool c)))) => some (cond c b (not b))
        | some (.t []) => some false
        | _ => none)))
theorem want_eq {i : Inj} {ops : Array Oper} {t : T} {a : Act} {o : Oper} {b : Bool} (hT : TR i t a) (h : want ops t.m o = some b) : Region.wanted o (yielded ops a.tmps) = b := by
  unfold want at h
  unfold Region.wanted
  split at h
  · rename_i hg; simp at h; subst h; rw [hg]
  · rename_i j q hg
    rw [hg]
    dsimp only
    split at h
    · rename_i hj; simp at h; subst h; simp [yielded, hj]
    · rename_i oj hj
      split at h
      · rename_i hd; simp at h; subst h; simp [yielded, hj, hd]
      · rename_i d hd
        split at h
        · rename_i c hc
          have hv := (hT.slot d _ hc).1
          have : a.tmps[d]? = some (.bool c) := by
            rw [Array.getD_eq_getD_getElem?] at hv
            cases hx : a.tmps[d]? with
            | none => rw [hx] at hv; simp [undef] at hv
            | some v => rw [hx] at hv; simp at hv; rw [hv]
          simp at h
          subst h
          simp [yielded, hj, hd, this]
          cases c <;> cases q <;> rfl
        · rename_i hc
          obtain ⟨us, hv, hl⟩ := hT.slot d _ hc
          have hus : us = #[] := by
            obtain ⟨us⟩ := us
            cases us with
            | nil => rfl
            | cons _ _ => exact hl.elim
          subst hus
          simp at h
          subst h
          rw [Array.getD_eq_getD_getElem?] at hv
          cases hx : a.tmps[d]? with
          | none => simp [yielded, hj, hd, hx]
          | some v => rw [hx] at hv; simp at hv; subst hv; simp [yielded, hj, hd, hx]
        · cases h
/- what stands outside -/
structure Env where
  X : List (FuncId × XK)
  S : FuncId → List AV → Hp → Option (List (AV × Hp))
def lookX : List (FuncId × XK) → FuncId → Option XK
  | [], _ => none
  | (g, k) :: l, f => cond (Nat.beq g f) (some k) (lookX l f)
structure EOk (P : Program) (E : Env) : Prop where
  x : ∀ g k, lookX E.X g = some k → ExtIs P g k
  s : ∀ (w0 : Base) g xs h L, E.S g xs h = some L → (∃ r, fnOk P g = some r) ∧ ∀ (i : Inj) (us : Array Value) (w : World), LR (AR i) xs us.toList → Rel w0 i h.m.get h.n w → CallsIn (FW none) 0 P g us w (CallR w0 i L)
theorem XAll_look {l : List (FuncId × XK)} (h : XAll P l) {g : FuncId} {k : XK} (hk : lookX l g = some k) : ExtIs P g k := by
  induction l with
  | nil => cases hk
  | cons p l ih =>
    obtain ⟨f, q⟩ := p
    simp only [lookX] at hk
    cases hb : Nat.beq f g with
    | true =>
      rw [hb] at hk
      simp at hk
      subst hk
      rw [← beq_of hb]
      exact h.1
    | false => rw [hb] at hk; exact ih h.2 hk
/- operations that several things may come of, and rarer ones -/
def one1 (r : Option (AV × Hp)) : Option (List (AV × Hp)) := match r with | some x => some [x] | none => none
def unit1 (r : Option Hp) : Option (List (AV × Hp)) := match r with | some x => some [(udf, x)] | none => none
def same1 (h : Hp) (r : Option AV) : Option (List (AV × Hp)) := match r with | some x => some [(x, h)] | none => none
def amore (P : Program) (t : Tri AV) (h : Hp) (o : Oper) : Option (List (AV × Hp)) :=
  match o.op with
  | .next x is => (match ev t x with | some y => aNext h y is | none => none)
  | .entry x => (match ev t x with | some y => same1 h (aEntry h y) | none => none)
  | .range ty x => (match ev t x with | some y => one1 (aRange P h ty y) | none => none)
  | .convert src dst x => (match ev t x with | some y => (match aBytes P h src dst y with | some z => some [(z, h)] | none => same1 h (aUnsafe P h src dst y)) | none => none)
  | .makeSlice ty l c => (match ev t l, ev t c with | some l, some c => one1 (aMakeSlice P h ty l c) | _, _ => none)
  | .call c => (match c.callee with
    | .builtin .append => (match evl t c.args.toList with | some [s, x] => (match aAppIn P h c.argTypes.toList s x with | some r => some [r] | none => one1 (aAppZ P h c.argTypes.toList s x)) | _ => none)
    | .builtin .copy => (match evl t c.args.toList with | some [s, x] => one1 (aCopy P h c.argTypes.toList s x) | _ => none)
    | .builtin .clear => (match evl t c.args.toList with | some [x] => unit1 (aClear P h c.argTypes.toList x) | _ => none)
    | _ => none)
  | _ => none
/-- an operation comes to one of these -/
def RanL (P : Program) (w0 : Base) (s : Sem Next) (i : Inj) (w : World) (L : List (AV × Hp)) : Prop := ∃ r ∈ L, Ran P w0 s i w r.1 r.2
theorem RanL.one1 {s : Sem Next} {i : Inj} {w : World} {r : Option (AV × Hp)} {L : List (AV × Hp)} (hL : one1 r = some L) (h : ∀ x h', r = some (x, h') → Ran P w0 s i w x h') : RanL P w0 s i w L := by
  unfold R.one1 at hL
  split at hL
  · rename_i x; simp at hL; subst hL; exact ⟨x, List.mem_singleton.2 rfl, h x.1 x.2 rfl⟩
  · cases hL
theorem amore_eq {i : Inj} {h : Hp} {w : World} {t : T} {a : Act} {o : Oper} {L : List (AV × Hp)} (hT : TR i t a) (hR : Rel w0 i h.m.get h.n w) (ha : amore P t.m h o = some L) : RanL P w0 (execOp a.eval o) i w L := by
  unfold amore at ha
  split at ha
  · rename_i x is ho
    split at ha
    · rename_i y hy
      obtain ⟨v, w', h1, r, h2, h3, h4⟩ := aNext_eq (P := P) (ty := o.type) hR (ev_eq hT hy) ha
      exact ⟨r, h2, i, .value v, w', by simp [execOp, ho, h1], Le.refl i, h3, .inl ⟨v, rfl, h4⟩⟩
    · cases ha
  · rename_i x ho
    split at ha
    · rename_i y hy
      unfold same1 at ha
      split at ha
      · rename_i z hz
        simp at ha
        subst ha
        obtain ⟨v, h1, h2⟩ := aEntry_eq (P := P) hR (ev_eq hT hy) hz
        exact ⟨_, List.mem_singleton.2 rfl, i, .value v, w, by simp [execOp, ho, h1], Le.refl i, hR, .inl ⟨v, rfl, h2⟩⟩
      · cases ha
    · cases ha
  · rename_i ty x ho
    split at ha
    · rename_i y hy
      exact RanL.one1 ha fun z h' hz => by simp only [execOp, ho]; exact aRange_eq hR (ev_eq hT hy) hz
    · cases ha
  · rename_i src dst x ho
    split at ha
    · rename_i y hy
      split at ha
      · rename_i z hz
        simp at ha
        subst ha
        obtain ⟨v, h1, h2⟩ := aBytes_eq (P := P) hR (ev_eq hT hy) hz
        exact ⟨_, List.mem_singleton.2 rfl, i, .value v, w, by simp [execOp, ho, h1], Le.refl i, hR, .inl ⟨v, rfl, h2⟩⟩
      · unfold same1 at ha
        split at ha
        · rename_i z hz
          simp at ha
          subst ha
          obtain ⟨v, h1, h2⟩ := aUnsafe_eq (P := P) hR (ev_eq hT hy) hz
          exact ⟨_, List.mem_singleton.2 rfl, i, .value v, w, by simp [execOp, ho, h1], Le.refl i, hR, .inl ⟨v, rfl, h2⟩⟩
        · cases ha
    · cases ha
  · rename_i ty l c ho
    split at ha
    · rename_i x y hx hy
      exact RanL.one1 ha fun z h' hz => by simp only [execOp, ho]; exact aMakeSlice_eq hR (ev_eq hT hx) (ev_eq hT hy) hz
    · cases ha
  · rename_i c ho
    obtain ⟨cal, args, ats⟩ := c
    split at ha
    · rename_i hc
      dsimp only at hc
      subst hc
      obtain ⟨cs, hex⟩ := ex_builtin (ρ := a.eval) ho
      split at ha
      · rename_i s y hl
        have hL := evl_eq hT hl
        obtain ⟨args⟩ := args
        match args, hL with
        | [p, q], ⟨h1, h2, _⟩ =>
          rw [hex]
          split at ha
          · rename_i r hr
            simp at ha
            subst ha
            exact ⟨r, List.mem_singleton.2 rfl, by simpa [builtin] using aAppIn_eq (P := P) (ty := o.type) hR h1 h2 (z := r.1) (h' := r.2) hr⟩
          · exact RanL.one1 ha fun z h' hz => by simpa [builtin] using aAppZ_eq (P := P) (ty := o.type) hR h1 h2 hz
      · cases ha
    · rename_i hc
      dsimp only at hc
      subst hc
      obtain ⟨cs, hex⟩ := ex_builtin (ρ := a.eval) ho
      split at ha
      · rename_i s y hl
        have hL := evl_eq hT hl
        obtain ⟨args⟩ := args
        match args, hL with
        | [p, q], ⟨h1, h2, _⟩ =>
          rw [hex]
          exact RanL.one1 ha fun z h' hz => by simpa [builtin] using aCopy_eq (P := P) (ty := o.type) hR h1 h2 hz
      · cases ha
    · rename_i hc
      dsimp only at hc
      subst hc
      obtain ⟨cs, hex⟩ := ex_builtin (ρ := a.eval) ho
      split at ha
      · rename_i y hl
        unfold unit1 at ha
        split at ha
        · rename_i h' hz
          simp at ha
          subst ha
          have hL := evl_eq hT hl
          obtain ⟨args⟩ := args
          match args, hL with
          | [p], ⟨h1, _⟩ =>
            obtain ⟨w', h3, h4⟩ := aClear_eq (P := P) (ty := o.type) hR h1 hz
            exact ⟨_, List.mem_singleton.2 rfl, i, .value (.tuple #[]), w', by rw [hex]; simp [builtin, h3], Le.refl i, h4, .inl ⟨_, rfl, udf_eq i⟩⟩
        · cases ha
      · cases ha
    · cases ha
  · cases ha
/- one operation -/
def ostep (P : Program) (E : Env) (rec : Rec) (t : Tri AV) (h : Hp) (o : Oper) : Option (List (AV × Hp)) :=
  match callee t o with
  | some (g, xs) => (match lookX E.X g with
    | some k => (match aext P k xs h with | some r => some [r] | none => none)
    | none => (match E.S g xs h with
      | some L => some L
      | none => acall P rec g xs h))
  | none => (match afree P t o with
    | some x => some [(x, h)]
    | none => (match aread P t h o with
      | some x => some [(x, h)]
      | none => (match aeff P t h o with
        | some r => some [r]
        | none => (match amore P t h o with
          | some L => some L
          | none => (match yieldC t o with | some (b, xs) => ayield rec b xs h | none => none)))))
theorem ostep_eq {rd : Option Nat} {E : Env} (hE : EOk P E) {rec : Rec} (hrec : Sound P rec) {i : Inj} {t : T} {a : Act} {h : Hp} {w : World} {o : Oper} {L : List (AV × Hp)} (hT : TR i t a) (hR : Rel w0 i h.m.get h.n w) (hs : ostep P E rec t.m h o = some L) (hsm : ∀ ρ, Oper.semAt rd ρ o = execOp ρ o) {K : Act → World → Prop} {Q : Exit → Act → World → Prop}
    (hK : ∀ r ∈ L, ∀ j v w', Le i j → AR j r.1 v → Rel w0 j r.2.m.get r.2.n w' → K (a.put o.dst v) w') : o.wpIn (FW rd) 0 P a w K Q := by
  rw [Oper.wpIn_iff hsm]
  have fromL : RanL P w0 (execOp a.eval o) i w L → o.uponIn (FW rd) 0 P a K Q ((execOp a.eval o).run P w) := by
    rintro ⟨r, hr, j, nx, w', h1, h2, h3, h4⟩
    rw [h1]
    rcases h4 with ⟨v, rfl, h5⟩ | ⟨rfl, h5⟩
    · rw [Oper.uponIn_value]; exact hK r hr j v w' h2 h5 h3
    · rw [Oper.uponIn_skip]; exact hK r hr j undef w' h2 h5 h3
  unfold ostep at hs
  split at hs
  · rename_i g xs hc
    obtain ⟨us, h1, h2⟩ := callee_eq (P := P) hT hc
    split at hs
    · rename_i k hk
      split at hs
      · rename_i r hr
        simp at hs
        subst hs
        obtain ⟨v, w', h3, h4, h5⟩ := aext_eq (P := P) hR (hE.x g k hk) h2 (y := r.1) (h' := r.2) hr
        exact fromL ⟨r, List.mem_singleton.2 rfl, i, .value v, w', by rw [h1 w, h3], Le.refl i, h4, .inl ⟨v, rfl, h5⟩⟩
      · cases hs
    · have callK : ∀ {us : Array Value}, (∀ w, (execOp a.eval o).run P w = .ok (.enter g us) w) → CallsIn (FW none) 0 P g us w (CallR w0 i L) → o.uponIn (FW rd) 0 P a K Q ((execOp a.eval o).run P w) := by
        intro us h1 hcall
        rw [h1 w, Oper.uponIn_enter]
        refine ⟨fun h => (by cases h), CallsIn.mono (callsFW hcall rd) fun e w' he => ?_⟩
        obtain ⟨r, hr, j, v, rfl, hj, hv, hR'⟩ := he
        exact hK r hr j v w' hj hv hR'
      split at hs
      · rename_i M hM
        simp at hs
        subst hs
        obtain ⟨⟨⟨fn, c⟩, hg⟩, hcall⟩ := hE.s w0 g xs h M hM
        exact callK (us := us) (fun w => by rw [h1 w, callFunc_run hg]) (hcall i us w h2 hR)
      · have hg : ∃ fn c, fnOk P g = some (fn, c) := by
          unfold acall at hs
          split at hs
          · rename_i fn c M hg hM; exact ⟨fn, c, hg⟩
          · cases hs
        obtain ⟨fn, c, hg⟩ := hg
        exact callK (us := us) (fun w => by rw [h1 w, callFunc_run hg]) (acall_eq hrec hs h2 hR)
  · split at hs
    · rename_i x hx
      simp at hs
      subst hs
      obtain ⟨v, h1, h2⟩ := afree_eq (P := P) hT hx
      exact fromL ⟨_, List.mem_singleton.2 rfl, i, .value v, w, h1 w, Le.refl i, hR, .inl ⟨v, rfl, h2⟩⟩
    · split at hs
      · rename_i x hx
        simp at hs
        subst hs
        obtain ⟨v, h1, h2⟩ := aread_eq (P := P) hT hR hx
        exact fromL ⟨_, List.mem_singleton.2 rfl, i, .value v, w, h1, Le.refl i, hR, .inl ⟨v, rfl, h2⟩⟩
      · split at hs
        · rename_i r hr
          simp at hs
          subst hs
          exact fromL ⟨r, List.mem_singleton.2 rfl, aeff_eq (P := P) hT hR (x := r.1) (h' := r.2) hr⟩
        · split at hs
          · rename_i M hM
            simp at hs
            subst hs
            exact fromL (amore_eq (P := P) hT hR hM)
          · split at hs
            · rename_i b xs hb
              obtain ⟨k, N, us, h1, h2, h3⟩ := yieldC_eq (P := P) hT hb
              obtain ⟨f, tmps, asg, body, h4, h5⟩ := ayield_eq (P := P) hrec hs h1 h3 hR rd
              rw [h2 w, h4, Oper.uponIn_round]
              refine ⟨fun h => (by cases h), RoundIn.mono h5 fun e w' he => ?_⟩
              obtain ⟨r, hr, j, v, rfl, hj, hv, hR'⟩ := he
              exact hK r hr j v w' hj hv hR'
            · cases hs
/- a region in its order -/
theorem wp_Q {F : Fence} {n : Nat} {o : Oper} {a : Act} {w : World} {K : Act → World → Prop} {Q Q' : Exit → Act → World → Prop} (hq : ∀ e a w, Q e a w → Q' e a w) (h : o.wpIn F n P a w K Q) : o.wpIn F n P a w K Q' := by
  unfold Go.Oper.wpIn at *
  refine ⟨h.1, ?_⟩
  have h := h.2
  generalize (o.semAt F.round a.eval).run P w = r at *
  cases r with
  | ok n w' =>
    cases n <;> simp only [Oper.uponIn] at h ⊢ <;> first
      | exact h
      | exact ⟨h.1, CallsIn.mono h.2 (fun e w'' he => by cases e <;> first | exact he | exact hq _ _ _ he | (obtain ⟨a, w, h⟩ := he; exact ⟨a, w, hq _ _ _ h⟩))⟩
      | exact ⟨h.1, RoundIn.mono h.2 (fun e w'' he => by cases e <;> first | exact he | exact hq _ _ _ he | (obtain ⟨a, w, h⟩ := he; exact ⟨a, w, hq _ _ _ h⟩))⟩
  | halt x w' => cases x <;> simp only [Oper.uponIn] at h ⊢ <;> first | exact hq _ _ _ h | exact h
theorem wpList_mono' {F : Fence} {n : Nat} {ops : Array Oper} {Q Q' : Exit → Act → World → Prop} (hq : ∀ e a w, Q e a w → Q' e a w) : ∀ (l : List Oper) (a : Act) (w : World), wpListIn F n P ops Q l a w → wpListIn F n P ops Q' l a w
  | [], a, w, h => hq _ _ _ h
  | o :: l, a, w, h => by
    unfold wpListIn at h ⊢
    split at h
    · rename_i hw
      rw [if_pos hw]
      exact wp_Q (fun e a w => hq e a w) (Oper.wpIn_mono (fun a w => wpList_mono' hq l a w) h)
    · rename_i hw
      rw [if_neg hw]
      exact ⟨h.1, wpList_mono' hq l _ _ h.2⟩

def orun (P : Program) (E : Env) (rec : Rec) (ops : Array Oper) : List Oper → T → Hp → Option (List (T × Hp))
  | [], t, h => some [(t, h)]
  | o :: l, t, h => match want ops t.m o with
    | none => none
    | some false => (match tput t o.dst udf with | some t' => orun P E rec ops l t' h | none => none)
    | some true => (match odef t.m o with
      | some p => (match tput ⟨t.n, t.m, p :: t.d⟩ o.dst udf with | some t' => orun P E rec ops l t' h | none => none)
      | none => (match ostep P E rec t.m h o with
        | some L => bindL L fun r => (match tput t o.dst r.1 with | some t' => orun P E rec ops l t' r.2 | none => none)
        | none => none))
theorem TR.defer {i : Inj} {t : T} {a : Act} (hT : TR i t a) {p : DA} {d : Deferred} (hd : DR i p d) : TR i ⟨t.n, t.m, p :: t.d⟩ { a with defers := d :: a.defers } := ⟨⟨hd, hT.defers⟩, hT.size, hT.slot⟩
theorem wp_defer {rd : Option Nat} {i : Inj} {t : T} {a : Act} {o : Oper} {w : World} {p : DA} (hT : TR i t a) (hp : odef t.m o = some p) (hsm : ∀ ρ, Oper.semAt rd ρ o = execOp ρ o) {K : Act → World → Prop} {Q : Exit → Act → World → Prop} (hK : ∀ a', TR i ⟨t.n, t.m, p :: t.d⟩ a' → K (a'.put o.dst undef) w) : o.wpIn (FW rd) 0 P a w K Q := by
  obtain ⟨d, h1, h2⟩ := odef_eq (P := P) hT hp
  rw [Oper.wpIn_iff hsm, h1 w, Oper.uponIn_defer]
  exact hK _ (hT.defer h2)
theorem orun_eq {rd : Option Nat} {E : Env} (hE : EOk P E) {rec : Rec} (hrec : Sound P rec) {ops : Array Oper} : ∀ (l : List Oper), (∀ o ∈ l, ∀ ρ, Oper.semAt rd ρ o = execOp ρ o) → ∀ (t : T) (h : Hp) (L : List (T × Hp)), orun P E rec ops l t h = some L → ∀ i a w, TR i t a → Rel w0 i h.m.get h.n w → wpListIn (FW rd) 0 P ops (FinN w0 i L) l a w
  | [], _, t, h, L, hh, i, a, w, hT, hR => by
    simp [orun] at hh
    subst hh
    exact ⟨rfl, (t, h), List.mem_singleton.2 rfl, i, Le.refl i, hT, hR⟩
  | o :: l, hl, t, h, L, hh, i, a, w, hT, hR => by
    have hso := hl o (by simp)
    have hl' : ∀ o ∈ l, ∀ ρ, Oper.semAt rd ρ o = execOp ρ o := fun o ho => hl o (by simp [ho])
    refine wpListIn_step fun K hK => ?_
    unfold orun at hh
    split at hh
    · cases hh
    · rename_i hw
      rw [want_eq hT hw]
      simp only [Bool.false_eq_true, if_false]
      split at hh
      · rename_i t' ht
        exact ⟨fun _ _ => trivial, hK _ _ (orun_eq hE hrec l hl' t' h L hh i _ w (tput_eq hT ht (udf_eq i)) hR)⟩
      · cases hh
    · rename_i hw
      rw [want_eq hT hw]
      simp only [if_true]
      split at hh
      · rename_i p hp
        split at hh
        · rename_i t' ht
          exact wp_defer hT hp hso fun a' hT' => hK _ _ (orun_eq hE hrec l hl' t' h L hh i _ w (tput_eq hT' ht (udf_eq i)) hR)
        · cases hh
      · split at hh
        · rename_i M hM
          refine ostep_eq hE hrec hT hR hM hso fun r hr j v w' hj hv hR' => ?_
          obtain ⟨x, hx, hxL⟩ := bindL_eq hh r hr
          split at hx
          · rename_i t' ht
            refine hK _ _ ?_
            have := orun_eq hE hrec l hl' t' r.2 x hx j _ w' (tput_eq (hT.mono hj) ht hv) hR'
            exact wpList_mono' (fun e a w hf => hf.mono hj hxL) l _ _ this
          · cases hx
        · cases hh
end
end R
end Go.Proofs.Ytidkapanpieflaa
namespace Go.Proofs.Ytidkapanpieflaa
open Go.RowKit
set_option linter.unusedVariables false
set_option linter.unusedSectionVars false
set_option linter.unusedSimpArgs false
namespace R
variable [vl : Val]
section
variable {P : Program} {w0 : Base}
/-- what a region has read: by which operation, of which slots, what it yielded -/
abbrev Fact := Nat × Oper × Tri AV × AV
def newF (i : Nat) : List Fact → Bool
  | [] => true
  | f :: l => cond (Nat.beq f.1 i) false (newF i l)
theorem newF_eq {i : Nat} {l : List Fact} (h : newF i l = true) : ∀ f ∈ l, f.1 ≠ i := by
  induction l with
  | nil => simp
  | cons f l ih =>
    simp only [newF] at h
    cases hb : Nat.beq f.1 i with
    | true => rw [hb] at h; cases h
    | false =>
      rw [hb] at h
      intro g hg
      rcases List.mem_cons.1 hg with rfl | hg
      · intro e; rw [beq_tt e] at hb; cases hb
      · exact ih h g hg
/-- what only reads, a text out of bytes too -/
def areadB (P : Program) (t : Tri AV) (h : Hp) (o : Oper) : Option AV :=
  match aread P t h o with
  | some x => some x
  | none => (match o.op with
    | .convert src dst x => (match ev t x with | some y => aBytes P h src dst y | none => none)
    | _ => none)
theorem areadB_eq {i : Inj} {h : Hp} {w : World} {t : T} {a : Act} {o : Oper} {x : AV} (hT : TR i t a) (hR : Rel w0 i h.m.get h.n w) (ha : areadB P t.m h o = some x) : ∃ v, (execOp a.eval o).run P w = .ok (.value v) w ∧ AR i x v := by
  unfold areadB at ha
  split at ha
  · rename_i y hy; simp at ha; subst ha; exact aread_eq hT hR hy
  · split at ha
    · rename_i src dst y ho
      split at ha
      · rename_i z hz
        obtain ⟨v, h1, h2⟩ := aBytes_eq (P := P) hR (ev_eq hT hz) ha
        exact ⟨v, by simp [execOp, ho, h1], h2⟩
      · cases ha
    · cases ha
def again (P : Program) (h : Hp) (f : Fact) : Bool := match areadB P f.2.2.1 h f.2.1 with | some y => eqA f.2.2.2 y | none => false
def FR (P : Program) (i : Inj) (fs : List Fact) (F : Nat → World → Prop) : Prop :=
  ∀ k, (F k = fun _ => True) ∨ ∃ o t a y v, (k, o, t.m, y) ∈ fs ∧ TR i t a ∧ AR i y v ∧ F k = fun w => (execOp a.eval o).run P w = .ok (.value v) w
theorem FR.mono {i j : Inj} (h : Le i j) {fs : List Fact} {F : Nat → World → Prop} (g : FR P i fs F) : FR P j fs F := fun k => (g k).imp id fun ⟨o, t, a, y, v, h1, h2, h3, h4⟩ => ⟨o, t, a, y, v, h1, h2.mono h, h3.mono h, h4⟩
theorem FR.new {i : Inj} {fs : List Fact} {F : Nat → World → Prop} (g : FR P i fs F) {k : Nat} (hn : newF k fs = true) : F k = fun _ => True :=
  (g k).elim id fun ⟨o, t, a, y, v, h1, _⟩ => absurd rfl (newF_eq hn _ h1)
theorem FR.add {i : Inj} {fs : List Fact} {F : Nat → World → Prop} (g : FR P i fs F) {k : Nat} {o : Oper} {t : T} {a : Act} {y : AV} {v : Value} (hT : TR i t a) (hy : AR i y v) :
    FR P i ((k, o, t.m, y) :: fs) (upF F k fun w => (execOp a.eval o).run P w = .ok (.value v) w) := fun q => by
  unfold upF
  by_cases e : q = k
  · subst e
    exact .inr ⟨o, t, a, y, v, by simp, hT, hy, if_pos rfl⟩
  · rw [if_neg e]
    exact (g q).imp id fun ⟨o, t, a, y, v, h1, h2⟩ => ⟨o, t, a, y, v, List.mem_cons_of_mem _ h1, h2⟩
theorem FR.keep {i j : Inj} {fs : List Fact} {F : Nat → World → Prop} (g : FR P i fs F) (hj : Le i j) {h : Hp} {w w' : World} (hR : Rel w0 j h.m.get h.n w') {ops : Array Oper} {n : Nat}
    (ha : (fs.all fun f => wt .any ops n f.1 || again P h f) = true) : ∀ k, wt .any ops n k = false → F k w → F k w' := by
  intro k hk hw
  rcases g k with e | ⟨o, t, a, y, v, h1, h2, h3, h4⟩
  · rw [e]; trivial
  · rw [h4]
    have := List.all_eq_true.1 ha _ h1
    simp only [hk, Bool.false_or] at this
    unfold again at this
    dsimp only at this
    split at this
    · rename_i y' hy'
      obtain ⟨v', h5, h6⟩ := areadB_eq (P := P) (h2.mono hj) hR hy'
      rw [← eqA_eq this] at h6
      rw [AR.fn (h3.mono hj) h6]
      exact h5
    · cases this
/-- a block that is laid ahead: by which operation, into which slot, its address, its number, what it holds -/
structure Pend where
  i : Nat
  d : Tmp
  x : AV
  n : Nat
  o : AO
def eqT {α : Type} (f : α → α → Bool) : Tri α → Tri α → Bool
  | .e, .e => true
  | .n l v r, .n l' v' r' => (match v, v' with | none, none => true | some a, some b => f a b | _, _ => false) && (eqT f l l' && eqT f r r')
  | _, _ => false
theorem eqT_eq {α : Type} {f : α → α → Bool} (hf : ∀ a b, f a b = true → a = b) : ∀ {s t : Tri α}, eqT f s t = true → s = t
  | .e, .e, _ => rfl
  | .n l v r, .n l' v' r', h => by
    simp only [eqT, Bool.and_eq_true] at h
    rw [eqT_eq hf h.2.1, eqT_eq hf h.2.2]
    congr 1
    cases v <;> cases v' <;> simp_all
    exact hf _ _ h.1
  | .e, .n _ _ _, h => by simp [eqT] at h
  | .n _ _ _, .e, h => by simp [eqT] at h
def isO : AO → Option AO → Bool
  | .c e t, some (.c e' t') => Nat.beq e e' && eqT eqC t t'
  | _, _ => false
theorem isO_eq {o : AO} {x : Option AO} (h : isO o x = true) : x = some o := by
  unfold isO at h
  split at h
  · simp only [Bool.and_eq_true] at h
    have := beq_of h.1
    subst this
    rw [eqT_eq (fun _ _ => eqC_eq) h.2]
  · cases h
def pdDst : Option Pend → Option Tmp → Bool
  | none, _ => true
  | some p, some d => not (Nat.beq d p.d)
  | some _, none => true
def pdKeep (P : Program) (ops : Array Oper) (fs : List Fact) : Option Pend → Hp → Bool
  | none, _ => true
  | some p, h => isO p.o (h.m.get p.n) && fs.all fun f => wt .any ops p.i f.1 || again P h f
def ahead (P : Program) (o : Oper) (i : Nat) (t : T) (h : Hp) : Option (Pend × T × Hp) :=
  match o.op, o.guard, o.dst with
  | .alloc e, none, some d => (match aAlloc P h e with
    | some (x, h1) => (match h1.m.get h.n, t.m.del 64 d with
      | some ao, some m => wNat h.n fun n => gd (Nat.blt d t.n) (some (⟨i, d, x, n, ao⟩, ⟨t.n, m, t.d⟩, h1))
      | _, _ => none)
    | none => none)
  | _, _, _ => none
def prun (P : Program) (E : Env) (rec : Rec) (ops : Array Oper) : Option Pend → Pl → List Fact → T → Hp → Option (List (T × Hp))
  | u, .nil, _, t, h => (match u with | none => some [(t, h)] | some _ => none)
  | u, .go i false r, fs, t, h => match ops[i]? with
    | none => none
    | some o => gd (newF i fs && pdDst u o.dst) (match want ops t.m o with
      | none => none
      | some false => (match tput t o.dst udf with | some t' => prun P E rec ops u r fs t' h | none => none)
      | some true => (match afree P t.m o with
        | some x => (match tput t o.dst x with | some t' => prun P E rec ops u r fs t' h | none => none)
        | none => (match areadB P t.m h o with
          | some x => (match tput t o.dst x with | some t' => prun P E rec ops u r ((i, o, t.m, x) :: fs) t' h | none => none)
          | none => none)))
  | u, .go i true r, fs, t, h => match ops[i]? with
    | none => none
    | some o => gd (pdDst u o.dst && pdKeep P ops fs u h) (match want ops t.m o with
      | none => none
      | some false => (match tput t o.dst udf with | some t' => prun P E rec ops u r fs t' h | none => none)
      | some true => (match odef t.m o with
        | some p => (match tput ⟨t.n, t.m, p :: t.d⟩ o.dst udf with | some t' => prun P E rec ops u r fs t' h | none => none)
        | none => (match ostep P E rec t.m h o with
          | some L => bindL L fun x => gd (fs.all fun f => wt .any ops i f.1 || again P x.2 f) (match tput t o.dst x.1 with | some t' => prun P E rec ops u r fs t' x.2 | none => none)
          | none => none)))
  | u, .two p q, fs, t, h => (match u with
    | some _ => none
    | none => (match prun P E rec ops none p fs t h, prun P E rec ops none q fs t h with
      | some L, some M => some (L ++ M)
      | _, _ => none))
  | u, .al i s, fs, t, h => (match u with
    | some _ => none
    | none => (match ops[i]? with
      | none => none
      | some o => (match ahead P o i t h with | some (pd, t', h') => prun P E rec ops (some pd) s fs t' h' | none => none)))
  | u, .cm r, fs, t, h => (match u with
    | none => none
    | some pd => gd (pdKeep P ops fs (some pd) h) (match tput t (some pd.d) pd.x with | some t' => prun P E rec ops none r fs t' h | none => none))
theorem upF_self {F : Nat → World → Prop} {k : Nat} (h : F k = fun _ => True) : upF F k (fun _ => True) = F := by funext q; unfold upF; split <;> simp_all
theorem wpOp_at {rd : Option Nat} {ops : Array Oper} {Q : Exit → Act → World → Prop} {k : Nat} {K : Act → World → Prop} {a : Act} {w : World} {o : Oper} (ho : ops[k]? = some o)
    (H : (Region.wanted o (yielded ops a.tmps) = true ∧ o.wpIn (FW rd) 0 P a w K Q) ∨ (Region.wanted o (yielded ops a.tmps) = false ∧ K (a.put o.dst undef) w)) : wpOpIn (FW rd) 0 P ops Q k K a w := by
  unfold wpOpIn
  rw [ho]
  rcases H with ⟨h1, h2⟩ | ⟨h1, h2⟩
  · simp only [h1, if_true]; exact h2
  · simp only [h1, Bool.false_eq_true, if_false]; exact ⟨fun _ _ => trivial, h2⟩
/-- what lies ahead: the block is laid whenever its operation comes -/
structure AheadOk (P : Program) (ops : Array Oper) (p : Pend) : Prop where
  op : ∃ o, ops[p.i]? = some o ∧ o.guard = none ∧ o.dst = some p.d ∧ ∀ (ρ : Operand → Value) (w : World), ∃ ob N, (execOp ρ o).run P w = .ok (.value (.pointer (some ⟨w.heap.size, 0, none⟩))) (w.alloc ob) ∧ ∀ j, OR j N p.o ob
  x : p.x = .v (.c (.p p.n 0))
theorem Rel.ahead {i : Inj} {g : Nat → Option AO} {n : Nat} {w : World} (h : Rel w0 i g n w) (o : AO) : Rel ⟨w0.w, fun x => w0.gh x ∨ x = n⟩ i (up g n o) (n + 1) w := by
  have look : ∀ {b k N}, i b = some (k, N) → up g n o b = g b := fun {b k N} hb => by
    have := h.dom b _ hb
    unfold up
    rw [if_neg (by omega)]
  refine ⟨h.mod, fun b y hb => by have := h.dom b y hb; omega, h.lo, fun b1 b2 k N1 N2 o1 o2 h1 h2 h3 h4 h5 h6 => ?_, fun b o1 k N h1 h2 => ?_, fun b hb => ?_⟩
  · rw [look h1] at h3
    rw [look h2] at h4
    exact h.inj b1 b2 k N1 N2 o1 o2 h1 h2 h3 h4 h5 h6
  · rw [look h2] at h1
    exact h.obj b o1 k N h1 h2
  · rcases hb with hb | rfl
    · have := h.gh b hb; exact ⟨by omega, this.2⟩
    · refine ⟨by omega, ?_⟩
      cases e : i b with
      | none => rfl
      | some y => have := h.dom b y e; omega
theorem ahead_eq {ops : Array Oper} {o : Oper} {k : Nat} {t t' : T} {h h' : Hp} {pd : Pend} (ho : ops[k]? = some o) (hh : ahead P o k t h = some (pd, t', h')) :
    pd.i = k ∧ AheadOk P ops pd ∧ pd.n = h.n ∧ h'.n = h.n + 1 ∧ h'.m.get = up h.m.get h.n pd.o ∧ t'.n = t.n ∧ t'.d = t.d ∧ pd.d < t.n ∧ ∀ s, t'.m.get s = if s = pd.d then none else t.m.get s := by
  unfold ahead at hh
  split at hh
  · rename_i e d h1 h2 h3
    split at hh
    · rename_i x h4 ha
      split at hh
      · rename_i ao m hao hm
        simp only [wNat_eq, gd_eq] at hh
        obtain ⟨hd, hh⟩ := hh
        simp at hh
        obtain ⟨rfl, rfl, rfl⟩ := hh
        unfold aAlloc at ha
        split at ha
        · rename_i z hz
          obtain ⟨l, hb, hl⟩ := wCels_eq ha
          split at hb
          · rename_i h5 hn
            simp at hb
            obtain ⟨rfl, rfl⟩ := hb
            unfold aNew at hn
            split at hn
            · rename_i tr ht
              split at hn
              · rename_i mm hmm
                simp at hn
                subst hn
                have eg : mm.get = up h.m.get h.n (.c e tr) := up_get hmm
                dsimp only at hao
                rw [eg] at hao
                simp [up] at hao
                subst hao
                refine ⟨rfl, ⟨⟨o, ho, h2, h3, fun ρ w => ⟨.cells z.cells e, z.cells.size, ?_, fun j => ?_⟩⟩, rfl⟩, rfl, rfl, eg, rfl, rfl, by simpa [Nat.blt_eq] using hd, Tri.get_del _ _ _ _ hm⟩
                · simp [execOp, h1, Instr.alloc, zeroOf_run hz, newVar, run_newRow']
                · refine ⟨z.cells, rfl, rfl, fun q y hq => ?_⟩
                  rw [triOf_eq _ _ _ _ ht] at hq
                  split at hq
                  · simp at hq
                    obtain ⟨u, g1, g2⟩ := (hl j).get q y hq
                    exact ⟨u, by simpa using g1, g2⟩
                  · simp [Tri.get] at hq
              · cases hn
            · cases hn
          · cases hb
        · cases ha
      · cases hh
    · cases hh
  · cases hh
/-- what holds while a block lies ahead: it is laid (true), or not yet -/
inductive Hold (P : Program) (ops : Array Oper) (w0 : Base) : Option Pend → Bool → Inj → T → Hp → Act → World → Prop where
  | no {ex i t h a w} (hR : Rel w0 i h.m.get h.n w) : Hold P ops w0 none ex i t h a w
  | laid {pd i t h a w} (hA : AheadOk P ops pd) (hd : pd.d < t.n) (hR : Rel w0 i h.m.get h.n w) (hv : AR i pd.x (a.tmps.getD pd.d undef)) : Hold P ops w0 (some pd) true i t h a w
  | yet {pd i t h a w} (hA : AheadOk P ops pd) (hd : pd.d < t.n) (hg : ¬ w0.gh pd.n) (hz : t.m.get pd.d = none) (hR : Rel ⟨w0.w, fun x => w0.gh x ∨ x = pd.n⟩ i h.m.get h.n w) : Hold P ops w0 (some pd) false i t h a w
def under (w0 : Base) : Option Pend → Bool → Base
  | some pd, false => ⟨w0.w, fun x => w0.gh x ∨ x = pd.n⟩
  | _, _ => w0
def wpu : Option Pend → Bool → Option Nat
  | some pd, false => some pd.i
  | _, _ => none
theorem Hold.rel {ops : Array Oper} {u : Option Pend} {ex : Bool} {i : Inj} {t : T} {h : Hp} {a : Act} {w : World} (H : Hold P ops w0 u ex i t h a w) : Rel (under w0 u ex) i h.m.get h.n w := by
  cases H with
  | no hR => cases ex <;> exact hR
  | laid _ _ hR _ => exact hR
  | yet _ _ _ _ hR => exact hR
theorem getD_put {a : Act} {d : Option Tmp} {v : Value} {s : Tmp} (h : d ≠ some s) : (a.put d v).tmps.getD s undef = a.tmps.getD s undef := by
  cases d with
  | none => rfl
  | some d =>
    have hne : d ≠ s := fun e => h (by rw [e])
    simp [Act.put, Array.getElem?_setIfInBounds_ne hne]
theorem pdDst_ne {pd : Pend} {d : Option Tmp} (h : pdDst (some pd) d = true) : d ≠ some pd.d := by
  intro e
  subst e
  simp [pdDst] at h
theorem tput_n {t t' : T} {d : Option Tmp} {x : AV} (h : tput t d x = some t') : t'.n = t.n ∧ ∀ s, d ≠ some s → t'.m.get s = t.m.get s := by
  cases d with
  | none => simp [tput] at h; subst h; exact ⟨rfl, fun _ _ => rfl⟩
  | some d =>
    simp only [tput, gd_eq] at h
    obtain ⟨_, h⟩ := h
    split at h
    · rename_i m hm
      simp at h
      subst h
      refine ⟨rfl, fun s hs => ?_⟩
      dsimp only
      rw [Tri.get_set _ _ _ _ _ hm, if_neg (fun e => hs (by rw [e]))]
    · cases h
theorem Hold.step {ops : Array Oper} {u : Option Pend} {ex : Bool} {i j : Inj} {t t' : T} {h h' : Hp} {a a' : Act} {w w' : World} (H : Hold P ops w0 u ex i t h a w) (hj : Le i j) {d : Option Tmp} {x : AV} (ht : tput t d x = some t') (hd : pdDst u d = true)
    (hR : Rel (under w0 u ex) j h'.m.get h'.n w') (ha : ∀ s, d ≠ some s → a'.tmps.getD s undef = a.tmps.getD s undef) : Hold P ops w0 u ex j t' h' a' w' := by
  obtain ⟨hn, hs⟩ := tput_n ht
  cases H with
  | no _ => exact .no (by cases ex <;> exact hR)
  | laid hA hl _ hv => exact .laid hA (by rw [hn]; exact hl) hR (by rw [ha _ (pdDst_ne hd)]; exact hv.mono hj)
  | yet hA hl hg hz _ => exact .yet hA (by rw [hn]; exact hl) hg (by rw [hs _ (pdDst_ne hd)]; exact hz) hR
/-- the block is laid -/
theorem lay_eq {rd : Option Nat} {ops : Array Oper} (hsm : Sm rd ops) {i : Inj} {pd : Pend} {t : T} {h : Hp} {a : Act} {w : World} {Q : Exit → Act → World → Prop} {K : Act → World → Prop} (hT : TR i t a) (H : Hold P ops w0 (some pd) false i t h a w) (hb : h.m.get pd.n = some pd.o)
    (hK : ∀ j v w', Le i j → Hold P ops w0 (some pd) true j t h (a.put (some pd.d) v) w' → TR j t (a.put (some pd.d) v) → Rel w0 j h.m.get h.n w' → K (a.put (some pd.d) v) w') : wpOpIn (FW rd) 0 P ops Q pd.i K a w := by
  cases H with
  | yet hA hl hg hz hR =>
    obtain ⟨⟨o, ho, hgd, hdst, hex⟩, hx⟩ := hA
    obtain ⟨ob, N, he, hor⟩ := hex a.eval w
    refine wpOp_at ho (.inl ⟨by simp [Region.wanted, hgd], ?_⟩)
    rw [Oper.wpIn_iff (hsm _ _ ho), he, Oper.uponIn_value, hdst]
    have hR' := hR.late hg N hb (hor _)
    have hle : Le i (put i pd.n (w.heap.size, N)) := fun c z hc => by
      unfold put
      rw [if_neg (fun e => by subst e; rw [(hR.gh pd.n (.inr rfl)).2] at hc; cases hc)]
      exact hc
    have hxv : AR (put i pd.n (w.heap.size, N)) pd.x (.pointer (some ⟨w.heap.size, 0, none⟩)) := by
      rw [hx]
      exact ⟨w.heap.size, N, by simp [put], rfl⟩
    refine hK _ _ _ hle (.laid ⟨⟨o, ho, hgd, hdst, hex⟩, hx⟩ hl hR' ?_) ⟨(hT.mono hle).defers, by simpa [Act.put] using hT.size, fun s y hs => ?_⟩ hR'
    · have : pd.d < a.tmps.size := by rw [hT.size]; exact hl
      simpa [Act.put, Array.getD, this] using hxv
    · have hne : pd.d ≠ s := fun e => by subst e; rw [hz] at hs; cases hs
      rw [getD_put (by simpa using hne)]
      exact (hT.mono hle).slot s y hs
theorem prun_eq {rd : Option Nat} {E : Env} (hE : EOk P E) {rec : Rec} (hrec : Sound P rec) {ops : Array Oper} (hsm : Sm rd ops) {i0 : Inj} {M : List (T × Hp)} : ∀ (p : Pl) (u : Option Pend) (ex : Bool) (fs : List Fact) (F : Nat → World → Prop) (t : T) (h : Hp) (L : List (T × Hp)), prun P E rec ops u p fs t h = some L → (∀ r ∈ L, r ∈ M) →
    ∀ i a w, Le i0 i → TR i t a → Hold P ops w0 u ex i t h a w → FR P i fs F → wpP rd P .any ops (FinN w0 i0 M) (wpu u ex) F p a w
  | .nil, u, ex, fs, F, t, h, L, hh, hM, i, a, w, hi, hT, hH, hF => by
    cases u with
    | some pd => simp [prun] at hh
    | none =>
      simp [prun] at hh
      subst hh
      have hR := hH.rel
      exact ⟨rfl, (t, h), hM _ (List.mem_singleton.2 rfl), i, hi, hT, by cases ex <;> exact hR⟩
  | .go k false r, u, ex, fs, F, t, h, L, hh, hM, i, a, w, hi, hT, hH, hF => by
    unfold prun at hh
    split at hh
    · cases hh
    · rename_i o ho
      rw [gd_eq, Bool.and_eq_true] at hh
      obtain ⟨⟨hn, hpd⟩, hh⟩ := hh
      have hFk := hF.new hn
      have go : ∀ (T : World → Prop) (v : Value), YieldsIf P ops T o v a → T w → wpP rd P .any ops (FinN w0 i0 M) (wpu u ex) (upF F k T) r (a.put o.dst v) w → wpP rd P .any ops (FinN w0 i0 M) (wpu u ex) F (.go k false r) a w := by
        intro T v h1 h2 h3
        generalize wpu u ex = q at h3 ⊢
        cases q <;> exact ⟨T, o, v, hFk, ho, h1, h2, h3⟩
      split at hh
      · cases hh
      · rename_i hw
        split at hh
        · rename_i t' ht
          refine go (fun _ => True) undef (.inr ⟨want_eq hT hw, rfl⟩) trivial ?_
          rw [upF_self hFk]
          exact prun_eq hE hrec hsm r u ex fs F t' h L hh hM i _ w hi (tput_eq hT ht (udf_eq i)) (hH.step (Le.refl i) ht hpd hH.rel fun s hs => getD_put hs) hF
        · cases hh
      · rename_i hw
        split at hh
        · rename_i x hx
          split at hh
          · rename_i t' ht
            obtain ⟨v, h1, h2⟩ := afree_eq (P := P) hT hx
            refine go (fun _ => True) v (.inl ⟨want_eq hT hw, fun w _ => h1 w⟩) trivial ?_
            rw [upF_self hFk]
            exact prun_eq hE hrec hsm r u ex fs F t' h L hh hM i _ w hi (tput_eq hT ht h2) (hH.step (Le.refl i) ht hpd hH.rel fun s hs => getD_put hs) hF
          · cases hh
        · split at hh
          · rename_i x hx
            split at hh
            · rename_i t' ht
              obtain ⟨v, h1, h2⟩ := areadB_eq (P := P) hT hH.rel hx
              refine go (fun w => (execOp a.eval o).run P w = .ok (.value v) w) v (.inl ⟨want_eq hT hw, fun w hw => hw⟩) h1 ?_
              exact prun_eq hE hrec hsm r u ex _ _ t' h L hh hM i _ w hi (tput_eq hT ht h2) (hH.step (Le.refl i) ht hpd hH.rel fun s hs => getD_put hs) (hF.add hT h2)
            · cases hh
          · cases hh
  | .go k true r, u, ex, fs, F, t, h, L, hh, hM, i, a, w, hi, hT, hH, hF => by
    unfold prun at hh
    split at hh
    · cases hh
    rename_i o ho
    rw [gd_eq, Bool.and_eq_true] at hh
    obtain ⟨⟨hpd, hpk⟩, hh⟩ := hh
    have body : ∀ (ex : Bool) (i : Inj) (a : Act) (w : World), Le i0 i → TR i t a → Hold P ops w0 u ex i t h a w → FR P i fs F →
        wpOpIn (FW rd) 0 P ops (FinN w0 i0 M) k (fun a' w' => (∀ q, wt .any ops k q = false → F q w → F q w') ∧ wpP rd P .any ops (FinN w0 i0 M) (wpu u ex) F r a' w') a w := by
      intro ex i a w hi hT hH hF
      refine wpOp_at ho ?_
      split at hh
      · cases hh
      · rename_i hw
        refine .inr ⟨want_eq hT hw, fun _ _ h => h, ?_⟩
        split at hh
        · rename_i t' ht
          exact prun_eq hE hrec hsm r u ex fs F t' h L hh hM i _ w hi (tput_eq hT ht (udf_eq i)) (hH.step (Le.refl i) ht hpd hH.rel fun s hs => getD_put hs) hF
        · cases hh
      · rename_i hw
        refine .inl ⟨want_eq hT hw, ?_⟩
        split at hh
        · rename_i p hp
          split at hh
          · rename_i t' ht
            obtain ⟨d, e1, e2⟩ := odef_eq (P := P) hT hp
            rw [Oper.wpIn_iff (hsm k o ho), e1 w, Oper.uponIn_defer]
            refine ⟨fun _ _ h => h, prun_eq hE hrec hsm r u ex fs F t' h L hh hM i _ w hi (tput_eq (hT.defer e2) ht (udf_eq i)) ?_ hF⟩
            have hH' : Hold P ops w0 u ex i ⟨t.n, t.m, p :: t.d⟩ h { a with defers := d :: a.defers } w := by
              cases hH with
              | no hR => exact .no hR
              | laid hA hl hR hv => exact .laid hA hl hR hv
              | yet hA hl hg hz hR => exact .yet hA hl hg hz hR
            exact hH'.step (Le.refl i) ht hpd hH'.rel fun s hs => getD_put hs
          · cases hh
        · split at hh
          · rename_i N hN
            refine ostep_eq hE hrec hT hH.rel hN (hsm k o ho) fun x hx j v w' hj hv hR' => ?_
            obtain ⟨y, hy, hyL⟩ := bindL_eq hh x hx
            rw [gd_eq] at hy
            obtain ⟨hall, hy⟩ := hy
            split at hy
            · rename_i t' ht
              exact ⟨hF.keep hj hR' hall, prun_eq hE hrec hsm r u ex fs F t' x.2 y hy (fun r hr => hM r (hyL r hr)) j _ w' (hi.trans hj) (tput_eq (hT.mono hj) ht hv) (hH.step hj ht hpd hR' fun s hs => getD_put hs) (hF.mono hj)⟩
            · cases hy
          · cases hh
    cases hH with
    | no hR =>
      have := body ex i a w hi hT (.no hR) hF
      cases ex <;> exact this
    | laid hA hl hR hv => exact body true i a w hi hT (.laid hA hl hR hv) hF
    | yet hA hl hg hz hR =>
      rename_i pd
      simp only [pdKeep, Bool.and_eq_true] at hpk
      refine ⟨body false i a w hi hT (.yet hA hl hg hz hR) hF, lay_eq hsm hT (.yet hA hl hg hz hR) (isO_eq hpk.1) fun j v w' hj hH' hT' hR' => ?_⟩
      exact ⟨hF.keep hj hR' hpk.2, body true j _ w' (hi.trans hj) hT' hH' (hF.mono hj)⟩
  | .two p q, u, ex, fs, F, t, h, L, hh, hM, i, a, w, hi, hT, hH, hF => by
    cases u with
    | some pd => simp [prun] at hh
    | none =>
      simp only [prun] at hh
      split at hh
      · rename_i L1 L2 h1 h2
        simp at hh
        subst hh
        have r1 := prun_eq hE hrec hsm p none ex fs F t h L1 h1 (fun r hr => hM r (List.mem_append_left _ hr)) i a w hi hT hH hF
        have r2 := prun_eq hE hrec hsm q none ex fs F t h L2 h2 (fun r hr => hM r (List.mem_append_right _ hr)) i a w hi hT hH hF
        cases ex <;> exact ⟨r1, r2⟩
      · cases hh
  | .al k s, u, ex, fs, F, t, h, L, hh, hM, i, a, w, hi, hT, hH, hF => by
    cases u with
    | some pd => simp [prun] at hh
    | none =>
      simp only [prun] at hh
      split at hh
      · cases hh
      · rename_i o ho
        split at hh
        · rename_i pd t' h' ha
          obtain ⟨rfl, hA, e1, e2, e3, e4, e5, e6, e7⟩ := ahead_eq ho ha
          have hR : Rel w0 i h.m.get h.n w := by have := hH.rel; cases ex <;> exact this
          have hT' : TR i t' a := ⟨by rw [e5]; exact hT.defers, by rw [e4]; exact hT.size, fun s x hs => by
            rw [e7] at hs
            split at hs
            · cases hs
            · exact hT.slot s x hs⟩
          have hR' := hR.ahead pd.o
          rw [← e3, ← e2, ← e1] at hR'
          have := prun_eq hE hrec hsm s (some pd) false fs F t' h' L hh hM i a w hi hT' (.yet hA (by rw [e4]; exact e6) (fun hg => by have := (hR.gh _ hg).1; omega) (by rw [e7, if_pos rfl]) hR') hF
          cases ex <;> exact this
        · cases hh
  | .cm r, u, ex, fs, F, t, h, L, hh, hM, i, a, w, hi, hT, hH, hF => by
    cases u with
    | none => simp [prun] at hh
    | some pd =>
      simp only [prun] at hh
      rw [gd_eq] at hh
      obtain ⟨hpk, hh⟩ := hh
      simp only [pdKeep, Bool.and_eq_true] at hpk
      split at hh
      · rename_i t' ht
        have done : ∀ j a w, Le i0 j → TR j t a → Hold P ops w0 (some pd) true j t h a w → FR P j fs F → wpP rd P .any ops (FinN w0 i0 M) none F r a w := by
          intro j a w hj hT hH hF
          cases hH with
          | laid hA hl hR hv =>
            refine prun_eq hE hrec hsm r none true fs F t' h L hh hM j a w hj ?_ (.no hR) hF
            simp only [tput, gd_eq] at ht
            obtain ⟨_, ht⟩ := ht
            split at ht
            · rename_i m hm
              simp at ht
              subst ht
              refine ⟨hT.defers, hT.size, fun s y hs => ?_⟩
              dsimp only at hs
              rw [Tri.get_set _ _ _ _ _ hm] at hs
              split at hs
              · rename_i e
                subst e
                simp at hs
                subst hs
                exact hv
              · exact hT.slot s y hs
            · cases ht
        cases hH with
        | laid hA hl hR hv => exact done i a w hi hT (.laid hA hl hR hv) hF
        | yet hA hl hg hz hR =>
          exact lay_eq hsm hT (.yet hA hl hg hz hR) (isO_eq hpk.1) fun j v w' hj hH' hT' hR' => ⟨hF.keep hj hR' hpk.2, done j _ w' (hi.trans hj) hT' hH' (hF.mono hj)⟩
      · cases hh
/- code -/
def nrm (r : T × Hp) : Out := (.normal, r.1, r.2)
def loopA (rec : Rec) (c : Code) : Nat → T → Hp → Option (List Out)
  | 0, _, _ => none
  | n + 1, t, h => match rec c t h with
    | some L => bindL L fun r => (match r.1 with | .normal => loopA rec c n r.2.1 r.2.2 | _ => some [r])
    | none => none
def rcallee (t : Tri AV) (g : Operand) (l : Nat) : Option (FuncId × List AV) :=
  match ev t g with
  | some (.v (.c (.x (.func (.func g) fst cap)))) => gd (Nat.beq fst.size 0 && Nat.beq cap.size 0) (some (g, [.v (.c (.y l))]))
  | some (.v (.c (.f g fs cs))) => some (g, fs.map capA ++ .v (.c (.y l)) :: cs.map capA)
  | _ => none
theorem rcallee_eq {i j : Inj} {t : T} {a : Act} {g : Operand} {l k N : Nat} {gf : FuncId} {xs : List AV} (hT : TR i t a) (hij : Le i j) (hj : j l = some (k, N)) (h : rcallee t.m g l = some (gf, xs)) :
    ∃ caps args : Array Value, resolve a.eval (rangeCall g k) 0 = pure { target := .fn (.func gf) caps, args := args } ∧ LR (AR j) xs (args ++ caps).toList := by
  unfold rcallee at h
  have hy : AR j (.v (.c (.y l))) (.func (.yield k) #[] #[]) := ⟨k, N, hj, rfl⟩
  have ec : a.eval (.const (.func (.yield k) #[] #[])) = .func (.yield k) #[] #[] := rfl
  split at h
  · rename_i g' fst cap hf
    simp only [gd_eq, Bool.and_eq_true] at h
    obtain ⟨⟨h1, h2⟩, h⟩ := h
    simp at h
    obtain ⟨rfl, rfl⟩ := h
    obtain rfl : fst = #[] := by simpa using beq_of h1
    obtain rfl : cap = #[] := by simpa using beq_of h2
    have hv := (ev_eq hT hf).1
    exact ⟨#[], #[.func (.yield k) #[] #[]], by simp [resolve, hv, ec, Deferred.ofValue], ⟨hy, trivial⟩⟩
  · rename_i g' fs cs hf
    simp at h
    obtain ⟨rfl, rfl⟩ := h
    obtain ⟨vs, us, hv, hvs, hus⟩ := (ev_eq hT hf).mono hij
    refine ⟨us, vs ++ #[.func (.yield k) #[] #[]], by simp [resolve, hv, ec, Deferred.ofValue], ?_⟩
    have := LR.app (capA_eq hvs) (LR.app (l := [.v (.c (.y l))]) (m := [.func (.yield k) #[] #[]]) (l' := cs.map capA) (m' := us.toList) ⟨hy, trivial⟩ (capA_eq hus))
    simpa using this
  · cases h
def pushH (h : Hp) (o : AO) : Option Hp := match h.m.set 64 h.n o with | some m => wNat (h.n + 1) fun n => some ⟨m, n⟩ | none => none
theorem pushH_eq {i : Inj} {h h' : Hp} {w : World} (hR : Rel w0 i h.m.get h.n w) {o : AO} {ob : Obj} (hp : pushH h o = some h') (ho : OR (put i h.n (w.heap.size, 0)) 0 o ob) :
    Rel w0 (put i h.n (w.heap.size, 0)) h'.m.get h'.n (w.alloc ob) ∧ h'.n = h.n + 1 := by
  unfold pushH at hp
  split at hp
  · rename_i m hm
    simp at hp
    subst hp
    have e : m.get = up h.m.get h.n o := by funext j; rw [Tri.get_set _ _ _ _ _ hm]; rfl
    refine ⟨?_, rfl⟩
    dsimp only
    rw [e]
    exact hR.alloc 0 ho
  · cases hp
def jump (t : T) (h : Hp) : Option Code → Option (List Out)
  | none => some [(.normal, t, h)]
  | some .ret => some [(.ret, t, h)]
  | some (.exit id) => some [(.ex id, t, h)]
  | _ => none
def endLo (h : Hp) (l : Nat) : Option (Option Code × Hp) :=
  match h.m.get l with
  | some (.lo .busy _ _ _ _ _ _ _) => none
  | some (.lo _ p _ _ _ _ _ _) => (match setH h l .d with | some h' => some (p, h') | none => none)
  | _ => none
theorem endLo_eq {i : Inj} {h h' : Hp} {w : World} {l k N : Nat} {p : Option Code} (hR : Rel w0 i h.m.get h.n w) (hi : i l = some (k, N)) (he : endLo h l = some (p, h')) :
    ∃ w', (Instr.endLoop k).run P w = .ok p w' ∧ Rel w0 i h'.m.get h'.n w' := by
  unfold endLo at he
  split at he
  · cases he
  · rename_i st p0 n m ps asg body D hnb hb
    split at he
    · rename_i h2 hs
      simp at he
      obtain ⟨rfl, rfl⟩ := he
      obtain ⟨ob, h4, r, rfl, e1, e2, _⟩ := hR.obj l _ k N hb hi
      obtain ⟨q1, q2⟩ := setH_eq hs
      refine ⟨_, by rw [run_endLoop h4 (by rw [e1]; exact hnb), e2], ?_⟩
      rw [q1, q2]
      exact hR.setObj hb (by simp) hi (o' := .d) trivial
    · cases he
  · cases he
def arange (P : Program) (rec : Rec) (g : Operand) (ps : Array Tmp) (asg body : Code) (t : T) (h : Hp) : Option (List Out) :=
  wNat (h.n + 1) fun l => (match rcallee t.m g l, pushH h (.df true) with
    | some (gf, xs), some h1 => (match pushH h1 (.lo .ready none t.n t.m ps.toList asg body h.n) with
      | some h2 => (match acall P rec gf xs h2 with
        | some L => bindL L fun r => (match endLo r.2 l with
          | some (p, h3) => jump ⟨t.n, t.m, .m h.n :: t.d⟩ h3 p
          | none => none)
        | none => none)
      | none => none)
    | _, _ => none)
theorem arange_eq {rec : Rec} (hrec : Sound P rec) {g : Operand} {ps : Array Tmp} {asg body : Code} {t : T} {h : Hp} {L : List Out} (hh : arange P rec g ps asg body t h = some L) {i : Inj} {a : Act} {w : World} (hT : TR i t a) (hR : Rel w0 i h.m.get h.n w) :
    (Code.rangeFunc g ps asg body).wpIn (FW none) 0 P (Fin w0 i L) a w := by
  unfold arange at hh
  rw [wNat_eq] at hh
  split at hh
  · rename_i gf xs h1 hg hp1
    split at hh
    · rename_i h2 hp2
      split at hh
      · rename_i M hM
        refine wpIn_rangeFunc fun fn _ => ?_
        obtain ⟨R1, n1⟩ := pushH_eq hR hp1 (ob := .deferred (some [])) rfl
        have l1 : Le i (put i h.n (w.heap.size, 0)) := hR.le _
        have hT1 := hT.mono (R1.le ((w.alloc (.deferred (some []))).heap.size, 0) |> l1.trans)
        obtain ⟨R2, n2⟩ := pushH_eq R1 hp2 (ob := .loop { state := .ready, pending := none, fn, tmps := a.tmps, params := ps, assign := asg, body, defers := w.heap.size })
          ⟨_, rfl, rfl, rfl, by simp, rfl, rfl, ⟨w.heap.size, 0, R1.le _ _ _ (by simp [put]), rfl⟩, hT.size, hT1.slot⟩
        have hl : put (put i h.n (w.heap.size, 0)) h1.n ((w.alloc (.deferred (some []))).heap.size, 0) (h.n + 1) = some (w.heap.size + 1, 0) := by simp [put, n1]
        have hle := l1.trans (R1.le ((w.alloc (.deferred (some []))).heap.size, 0))
        obtain ⟨caps, args, hres, hxs⟩ := rcallee_eq hT hle hl hg
        have hfn : ∃ r, fnOk P gf = some r := by
          unfold acall at hM
          split at hM
          · rename_i fn c _ hgf _; exact ⟨_, hgf⟩
          · cases hM
        obtain ⟨⟨fn', c'⟩, hgf⟩ := hfn
        refine ⟨w.heap.size + 1, _, _, _, _, gf, args ++ caps, _, run_enterLoop_outer fn a.tmps ps asg body, by rw [hres]; rfl, fun _ _ => trivial, by simp [invoke, callFunc_run hgf], fun h => (by cases h), CallsIn.mono (acall_eq hrec hM hxs R2) fun e w' he => ?_⟩
        obtain ⟨r, hr, j, v, rfl, hj, _, hR'⟩ := he
        obtain ⟨x, hx, hxL⟩ := bindL_eq hh r hr
        split at hx
        · rename_i p h3 he
          obtain ⟨w4, e1, e2⟩ := endLo_eq (P := P) hR' (hj _ _ hl) he
          refine ⟨p, w4, e1, ?_⟩
          have hD : j h.n = some (w.heap.size, 0) := hj _ _ (R1.le _ _ _ (by simp [put]))
          have hT2 : TR j ⟨t.n, t.m, .m h.n :: t.d⟩ { a with defers := [{ target := .collected w.heap.size, args := #[] }] ++ a.defers } :=
            ⟨⟨⟨_, _, hD, rfl⟩, (hT.mono (hle.trans hj)).defers⟩, hT.size, (hT.mono (hle.trans hj)).slot⟩
          unfold jump at hx
          split at hx
          · simp at hx; subst hx; exact ⟨_, hxL _ (List.mem_singleton.2 rfl), rfl, j, hle.trans hj, hT2, e2⟩
          · simp at hx; subst hx; exact wpIn_ret ⟨_, hxL _ (List.mem_singleton.2 rfl), rfl, j, hle.trans hj, hT2, e2⟩
          · simp at hx; subst hx; exact wpIn_exit ⟨_, hxL _ (List.mem_singleton.2 rfl), rfl, j, hle.trans hj, hT2, e2⟩
          · cases hx
        · cases hx
      · cases hh
    · cases hh
  · cases hh
def stepC (P : Program) (E : Env) (n : Nat) (rec : Rec) : Rec := fun c t h =>
  match c with
  | .skip => some [(.normal, t, h)]
  | .label _ => some [(.normal, t, h)]
  | .exit id => some [(.ex id, t, h)]
  | .ret => some [(.ret, t, h)]
  | .seq x y => (match rec x t h with
    | some L => bindL L fun r => (match r.1 with | .normal => rec y r.2.1 r.2.2 | _ => some [r])
    | none => none)
  | .cond c x y => (match ev t.m c with
    | some (.v (.c (.x (.bool b)))) => cond b (rec x t h) (rec y t h)
    | _ => none)
  | .block id c => (match rec c t h with
    | some L => bindL L fun r => (match r.1 with | .ex j => cond (Nat.beq j id) (some [(.normal, r.2)]) (some [r]) | _ => some [r])
    | none => none)
  | .loop c => loopA rec c n t h
  | .region id ops draw => cond draw
      (match planOf ops with
        | some p => gd (planChk ops p) (match prun P E rec ops none p [] t h with | some L => some (L.map nrm) | none => none)
        | none => none)
      (match orun P E rec ops ops.toList t h with | some L => some (L.map nrm) | none => none)
  | .rangeFunc g ps asg body => arange P rec g ps asg body t h
  | _ => none
theorem fin_of_finN {i : Inj} {L : List (T × Hp)} {e : Exit} {a : Act} {w : World} (h : FinN w0 i L e a w) : Fin w0 i (L.map nrm) e a w := by
  obtain ⟨rfl, r, hr, j, h1, h2, h3⟩ := h
  exact ⟨nrm r, List.mem_map_of_mem hr, rfl, j, h1, h2, h3⟩
theorem loopA_eq {rd : Option Nat} {rec : Rec} (hrec : Sound P rec) {c : Code} (hp : rd = none ∨ plainC c = true) : ∀ (n : Nat) (t : T) (h : Hp) (L : List Out), loopA rec c n t h = some L → ∀ i a w, TR i t a → Rel w0 i h.m.get h.n w → Code.roundsIn (FW rd) 0 P c (Fin w0 i L) n a w
  | 0, t, h, L, hh, _, _, _, _, _ => by cases hh
  | n + 1, t, h, L, hh, i, a, w, hT, hR => by
    unfold loopA at hh
    split at hh
    · rename_i M hM
      rw [roundsIn_succ]
      refine wpIn_mono (hrec w0 c t h M hM rd hp i a w hT hR) fun e a' w' hf => ?_
      obtain ⟨r, hr, rfl, j, hj, hT', hR'⟩ := hf
      obtain ⟨x, hx, hxL⟩ := bindL_eq hh r hr
      obtain ⟨e', t', h'⟩ := r
      cases e' with
      | normal =>
        have := loopA_eq hrec hp n t' h' x hx j a' w' hT' hR'
        exact rounds_mono (fun e a w hf => hf.mono hj hxL) n _ _ this
      | ex id => simp at hx; subst hx; exact ⟨(.ex id, t', h'), hxL _ (List.mem_singleton.2 rfl), rfl, j, hj, hT', hR'⟩
      | ret => simp at hx; subst hx; exact ⟨(.ret, t', h'), hxL _ (List.mem_singleton.2 rfl), rfl, j, hj, hT', hR'⟩
    · cases hh
where rounds_mono {c : Code} {Q Q' : Exit → Act → World → Prop} (hq : ∀ e a w, Q e a w → Q' e a w) : ∀ (n : Nat) (a : Act) (w : World), Code.roundsIn (FW rd) 0 P c Q n a w → Code.roundsIn (FW rd) 0 P c Q' n a w
    | 0, _, _, h => h.elim
    | n + 1, a, w, h => by
      rw [roundsIn_succ] at h ⊢
      exact wpIn_mono h fun e a w hh => by cases e <;> first | exact rounds_mono hq n a w hh | exact hq _ _ _ hh
theorem stepC_sound {E : Env} (hE : EOk P E) (hm : P.follows .mixedOrders = true) {n : Nat} {rec : Rec} (hrec : Sound P rec) : Sound P (stepC P E n rec) := by
  intro w0 c t h L hh rd hpl i a w hT hR
  unfold stepC at hh
  split at hh
  · simp at hh; subst hh; exact wpIn_skip ⟨_, List.mem_singleton.2 rfl, rfl, i, Le.refl i, hT, hR⟩
  · simp at hh; subst hh; exact wpIn_label ⟨_, List.mem_singleton.2 rfl, rfl, i, Le.refl i, hT, hR⟩
  · simp at hh; subst hh; exact wpIn_exit ⟨_, List.mem_singleton.2 rfl, rfl, i, Le.refl i, hT, hR⟩
  · simp at hh; subst hh; exact wpIn_ret ⟨_, List.mem_singleton.2 rfl, rfl, i, Le.refl i, hT, hR⟩
  · rename_i x y
    split at hh
    · rename_i M hM
      refine wpIn_seq (wpIn_mono (hrec w0 x t h M hM rd (hpl.imp id fun h => (Bool.and_eq_true _ _ ▸ h).1) i a w hT hR) fun e a' w' hf => ?_)
      obtain ⟨r, hr, rfl, j, hj, hT', hR'⟩ := hf
      obtain ⟨z, hz, hzL⟩ := bindL_eq hh r hr
      obtain ⟨e', t', h'⟩ := r
      cases e' with
      | normal => exact wpIn_mono (hrec w0 y t' h' z hz rd (hpl.imp id fun h => (Bool.and_eq_true _ _ ▸ h).2) j a' w' hT' hR') fun e a w hf => hf.mono hj hzL
      | ex id => simp at hz; subst hz; exact ⟨(.ex id, t', h'), hzL _ (List.mem_singleton.2 rfl), rfl, j, hj, hT', hR'⟩
      | ret => simp at hz; subst hz; exact ⟨(.ret, t', h'), hzL _ (List.mem_singleton.2 rfl), rfl, j, hj, hT', hR'⟩
    · cases hh
  · rename_i c x y
    split at hh
    · rename_i b hb
      have hv := (ev_eq hT hb).1
      cases b with
      | true => exact wpIn_cond_true hv (hrec w0 x t h L hh rd (hpl.imp id fun h => (Bool.and_eq_true _ _ ▸ h).1) i a w hT hR)
      | false => exact wpIn_cond_false hv (hrec w0 y t h L hh rd (hpl.imp id fun h => (Bool.and_eq_true _ _ ▸ h).2) i a w hT hR)
    · cases hh
  · rename_i id c
    split at hh
    · rename_i M hM
      refine wpIn_block (wpIn_mono (hrec w0 c t h M hM rd (show rd = none ∨ plainC c = true from hpl) i a w hT hR) fun e a' w' hf => ?_)
      obtain ⟨r, hr, rfl, j, hj, hT', hR'⟩ := hf
      obtain ⟨z, hz, hzL⟩ := bindL_eq hh r hr
      obtain ⟨e', t', h'⟩ := r
      cases e' with
      | normal => simp at hz; subst hz; exact ⟨(.normal, t', h'), hzL _ (List.mem_singleton.2 rfl), rfl, j, hj, hT', hR'⟩
      | ex id' =>
        show Exit.inBlock id (Fin w0 i L) (.exit id') a' w'
        dsimp only at hz
        cases hb : Nat.beq id' id with
        | true =>
          rw [hb] at hz
          simp at hz; subst hz
          simp only [Exit.inBlock, if_pos (beq_of hb)]
          exact ⟨(.normal, t', h'), hzL _ (List.mem_singleton.2 rfl), rfl, j, hj, hT', hR'⟩
        | false =>
          rw [hb] at hz
          simp at hz; subst hz
          have hne : ¬ id' = id := fun e => by rw [beq_tt e] at hb; cases hb
          simp only [Exit.inBlock, if_neg hne]
          exact ⟨(.ex id', t', h'), hzL _ (List.mem_singleton.2 rfl), rfl, j, hj, hT', hR'⟩
      | ret => simp at hz; subst hz; exact ⟨(.ret, t', h'), hzL _ (List.mem_singleton.2 rfl), rfl, j, hj, hT', hR'⟩
    · cases hh
  · rename_i c
    exact wpIn_loop_rounds n (loopA_eq hrec (show rd = none ∨ plainC c = true from hpl) n t h L hh i a w hT hR)
  · rename_i id ops draw
    cases draw with
    | true =>
      simp only [cond_true] at hh
      split at hh
      · rename_i p hp
        rw [gd_eq] at hh
        obtain ⟨hc, hh⟩ := hh
        split at hh
        · rename_i M hM
          simp at hh
          subst hh
          refine wpIn_mono (wp_region_pl (sm_of hpl) p hm hc (fun _ _ _ _ _ h => by cases h.1) (prun_eq hE hrec (sm_of hpl) (M := M) p none true [] (fun _ _ => True) t h M hM (fun _ h => h) i a w.drew (Le.refl i) hT (.no hR.drew) (fun k => .inl rfl))) fun e a w hf => fin_of_finN hf
        · cases hh
      · cases hh
    | false =>
      simp only [cond_false] at hh
      split at hh
      · rename_i M hM
        simp at hh
        subst hh
        exact wpIn_mono (wpIn_region_list (orun_eq hE hrec _ (fun o ho ρ => by
          obtain ⟨j, hj⟩ := List.getElem?_of_mem ho
          exact sm_of hpl j o (by simpa using hj) ρ) t h M hM i a w hT hR)) fun e a w hf => fin_of_finN hf
      · cases hh
  · rename_i g ps asg body
    rcases hpl with rfl | hpl
    · exact arange_eq hrec hh hT hR
    · cases hpl
  · cases hh
def crun (P : Program) (E : Env) (n : Nat) : Nat → Rec
  | 0 => fun _ _ _ => none
  | k + 1 => stepC P E n (crun P E n k)
theorem crun_sound {E : Env} (hE : EOk P E) (hm : P.follows .mixedOrders = true) (n : Nat) : ∀ k, Sound P (crun P E n k)
  | 0 => fun _ _ _ _ _ h => by cases h
  | k + 1 => stepC_sound hE hm (crun_sound hE hm n k)
/-- a function's run from nothing: each end is this value -/
def emp : Hp := ⟨.e, 0⟩
def runs (P : Program) (E : Env) (n k : Nat) (g : FuncId) (xs : List AV) (y : AV) : Bool :=
  match acall P (crun P E n k) g xs emp with
  | some L => L.all fun r => eqA y r.1
  | none => false
theorem emp_rel (w : World) : Rel ⟨w, fun _ => False⟩ (fun _ => none) emp.m.get emp.n w := ⟨Mod.refl _ _, fun _ _ h => (by cases h), fun _ _ _ h => (by cases h), fun _ _ _ _ _ _ _ h => (by cases h), fun _ _ _ _ _ h => (by cases h), fun _ h => h.elim⟩
theorem runs_eq {E : Env} (hE : EOk P E) (hm : P.follows .mixedOrders = true) {n k : Nat} {g : FuncId} {xs : List AV} {y : AV} {us : Array Value} {u : Value} (h : runs P E n k g xs y = true) (hx : LR (AR fun _ => none) xs us.toList) (hu : ∀ i v, AR i y v → v = u) (w : World) :
    Calls P g us w fun e w' => e = .returned u ∧ Mod (fun _ => False) w w' := by
  unfold runs at h
  split at h
  · rename_i L hL
    refine Calls.mono (calls_FW (acall_eq (crun_sound hE hm n k) hL hx (emp_rel w))) fun e w' he => ?_
    obtain ⟨r, hr, j, v, rfl, _, hv, hR⟩ := he
    have := eqA_eq (List.all_eq_true.1 h r hr)
    rw [← this] at hv
    rw [hu j v hv]
    exact ⟨rfl, hR.mod⟩
  · cases h
/-- nothing stands outside -/
def E0 : Env := ⟨[], fun _ _ _ => none⟩
theorem E0_ok : EOk P E0 := ⟨fun _ _ h => (by cases h), fun _ _ _ _ _ h => (by cases h)⟩
/-- atomic accesses stand outside -/
def EX (l : List (FuncId × XK)) : Env := ⟨l, fun _ _ _ => none⟩
theorem EX_ok {l : List (FuncId × XK)} (h : XAll P l) : EOk P (EX l) := ⟨fun _ _ hk => XAll_look h hk, fun _ _ _ _ _ h => (by cases h)⟩
theorem hu_true (i : Inj) (v : Value) (h : AR i (.v (.c (.x (.bool true)))) v) : v = .bool true := h.1
end
end R
end Go.Proofs.Ytidkapanpieflaa
