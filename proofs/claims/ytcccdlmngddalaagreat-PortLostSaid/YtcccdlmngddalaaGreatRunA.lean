/- A run of code, and that what it comes to is what the code comes to. -/
import Derived.Test.YtcccdlmngddalaaGreatRun9
import Derived.LoopNIn
set_option linter.unusedVariables false
set_option linter.unusedSimpArgs false
set_option linter.unusedSectionVars false
namespace Go.Proofs.YtcccdlmngddalaaGreat
open Go.RowKit
namespace R
variable [vl : Val]
section
variable {P : Program} {w0 : Base}
abbrev Fact := Nat × Oper × Tri AV × AV
def newF (i : Nat) : List Fact → Bool
  | [] => true
  | f :: l => cond (Nat.beq f.1 i) false (newF i l)
theorem newF_eq {i : Nat} {l : List Fact} (h : newF i l = true) : ∀ f ∈ l, f.1 ≠ i := by
  induction l with
  | nil => simp
  | cons f l ih =>
    simp only [newF] at h
    cases hb : Nat.beq f.1 i with
    | true => rw [hb] at h; cases h
    | false =>
      rw [hb] at h
      intro g hg
      rcases List.mem_cons.1 hg with rfl | hg
      · intro e; rw [beq_tt e] at hb; cases hb
      · exact ih h g hg
def areadB (P : Program) (t : Tri AV) (h : Hp) (o : Oper) : Option AV :=
  match aread P t h o with
  | some x => some x
  | none => (match o.op with
    | .convert src dst x => (match ev t x with | some y => aBytes P h src dst y | none => none)
    | _ => none)
theorem areadB_eq {i : Inj} {h : Hp} {w : World} {t : T} {a : Act} {o : Oper} {x : AV} (hT : TR i t a) (hR : Rel w0 i h.m.get h.n w) (ha : areadB P t.m h o = some x) : ∃ v, (execOp a.eval o).run P w = .ok (.value v) w ∧ AR i x v := by
  unfold areadB at ha
  split at ha
  · rename_i y hy; simp at ha; subst ha; exact aread_eq hT hR hy
  · split at ha
    · rename_i src dst y ho
      split at ha
      · rename_i z hz
        obtain ⟨v, h1, h2⟩ := aBytes_eq (P := P) hR (ev_eq hT hz) ha
        exact ⟨v, by simp [execOp, ho, h1], h2⟩
      · cases ha
    · cases ha
def again (P : Program) (h : Hp) (f : Fact) : Bool := match areadB P f.2.2.1 h f.2.1 with | some y => eqA f.2.2.2 y | none => false
def FR (P : Program) (i : Inj) (fs : List Fact) (F : Nat → World → Prop) : Prop :=
  ∀ k, (F k = fun _ => True) ∨ ∃ o t a y v, (k, o, t.m, y) ∈ fs ∧ TR i t a ∧ AR i y v ∧ F k = fun w => (execOp a.eval o).run P w = .ok (.value v) w
theorem FR.mono {i j : Inj} (h : Le i j) {fs : List Fact} {F : Nat → World → Prop} (g : FR P i fs F) : FR P j fs F := fun k => (g k).imp id fun ⟨o, t, a, y, v, h1, h2, h3, h4⟩ => ⟨o, t, a, y, v, h1, h2.mono h, h3.mono h, h4⟩
theorem FR.new {i : Inj} {fs : List Fact} {F : Nat → World → Prop} (g : FR P i fs F) {k : Nat} (hn : newF k fs = true) : F k = fun _ => True :=
  (g k).elim id fun ⟨o, t, a, y, v, h1, _⟩ => absurd rfl (newF_eq hn _ h1)
theorem FR.add {i : Inj} {fs : List Fact} {F : Nat → World → Prop} (g : FR P i fs F) {k : Nat} {o : Oper} {t : T} {a : Act} {y : AV} {v : Value} (hT : TR i t a) (hy : AR i y v) :
    FR P i ((k, o, t.m, y) :: fs) (upF F k fun w => (execOp a.eval o).run P w = .ok (.value v) w) := fun q => by
  unfold upF
  by_cases e : q = k
  · subst e
    exact .inr ⟨o, t, a, y, v, by simp, hT, hy, if_pos rfl⟩
  · rw [if_neg e]
    exact (g q).imp id fun ⟨o, t, a, y, v, h1, h2⟩ => ⟨o, t, a, y, v, List.mem_cons_of_mem _ h1, h2⟩
theorem FR.keep {i j : Inj} {fs : List Fact} {F : Nat → World → Prop} (g : FR P i fs F) (hj : Le i j) {h : Hp} {w w' : World} (hR : Rel w0 j h.m.get h.n w') {ops : Array Oper} {n : Nat}
    (ha : (fs.all fun f => wt .any ops n f.1 || again P h f) = true) : ∀ k, wt .any ops n k = false → F k w → F k w' := by
  intro k hk hw
  rcases g k with e | ⟨o, t, a, y, v, h1, h2, h3, h4⟩
  · rw [e]; trivial
  · rw [h4]
    have := List.all_eq_true.1 ha _ h1
    simp only [hk, Bool.false_or] at this
    unfold again at this
    dsimp only at this
    split at this
    · rename_i y' hy'
      obtain ⟨v', h5, h6⟩ := areadB_eq (P := P) (h2.mono hj) hR hy'
      rw [← eqA_eq this] at h6
      rw [AR.fn (h3.mono hj) h6]
      exact h5
    · cases this
structure Pend where
  i : Nat
  d : Tmp
  x : AV
  n : Nat
  o : AO
def eqT {α : Type} (f : α → α → Bool) : Tri α → Tri α → Bool
  | .e, .e => true
  | .n l v r, .n l' v' r' => (match v, v' with | none, none => true | some a, some b => f a b | _, _ => false) && (eqT f l l' && eqT f r r')
  | _, _ => false
theorem eqT_eq {α : Type} {f : α → α → Bool} (hf : ∀ a b, f a b = true → a = b) : ∀ {s t : Tri α}, eqT f s t = true → s = t
  | .e, .e, _ => rfl
  | .n l v r, .n l' v' r', h => by
    simp only [eqT, Bool.and_eq_true] at h
    rw [eqT_eq hf h.2.1, eqT_eq hf h.2.2]
    congr 1
    cases v <;> cases v' <;> simp_all
    exact hf _ _ h.1
  | .e, .n _ _ _, h => by simp [eqT] at h
  | .n _ _ _, .e, h => by simp [eqT] at h
def isO : AO → Option AO → Bool
  | .c e t, some (.c e' t') => Nat.beq e e' && eqT eqC t t'
  | _, _ => false
theorem isO_eq {o : AO} {x : Option AO} (h : isO o x = true) : x = some o := by
  unfold isO at h
  split at h
  · simp only [Bool.and_eq_true] at h
    have := beq_of h.1
    subst this
    rw [eqT_eq (fun _ _ => eqC_eq) h.2]
  · cases h
def pdDst : Option Pend → Option Tmp → Bool
  | none, _ => true
  | some p, some d => not (Nat.beq d p.d)
  | some _, none => true
def pdKeep (P : Program) (ops : Array Oper) (fs : List Fact) : Option Pend → Hp → Bool
  | none, _ => true
  | some p, h => isO p.o (h.m.get p.n) && fs.all fun f => wt .any ops p.i f.1 || again P h f
def ahead (P : Program) (o : Oper) (i : Nat) (t : T) (h : Hp) : Option (Pend × T × Hp) :=
  match o.op, o.guard, o.dst with
  | .alloc e, none, some d => (match aAlloc P h e with
    | some (x, h1) => (match h1.m.get h.n, t.m.del 64 d with
      | some ao, some m => wNat h.n fun n => gd (Nat.blt d t.n) (some (⟨i, d, x, n, ao⟩, ⟨t.n, m, t.d⟩, h1))
      | _, _ => none)
    | none => none)
  | _, _, _ => none
def prun (P : Program) (E : Env) (rec : Rec) (ops : Array Oper) : Option Pend → Pl → List Fact → T → Hp → Option (List (T × Hp))
  | u, .nil, _, t, h => (match u with | none => some [(t, h)] | some _ => none)
  | u, .go i false r, fs, t, h => match ops[i]? with
    | none => none
    | some o => gd (newF i fs && pdDst u o.dst) (match want ops t.m o with
      | none => none
      | some false => (match tput t o.dst udf with | some t' => prun P E rec ops u r fs t' h | none => none)
      | some true => (match afree P t.m o with
        | some x => (match tput t o.dst x with | some t' => prun P E rec ops u r fs t' h | none => none)
        | none => (match areadB P t.m h o with
          | some x => (match tput t o.dst x with | some t' => prun P E rec ops u r ((i, o, t.m, x) :: fs) t' h | none => none)
          | none => none)))
  | u, .go i true r, fs, t, h => match ops[i]? with
    | none => none
    | some o => gd (pdDst u o.dst && pdKeep P ops fs u h) (match want ops t.m o with
      | none => none
      | some false => (match tput t o.dst udf with | some t' => prun P E rec ops u r fs t' h | none => none)
      | some true => (match odef t.m o with
        | some p => (match tput ⟨t.n, t.m, p :: t.d⟩ o.dst udf with | some t' => prun P E rec ops u r fs t' h | none => none)
        | none => (match ostep P E rec t.m h o with
          | some L => bindL L fun x => gd (fs.all fun f => wt .any ops i f.1 || again P x.2 f) (match tput t o.dst x.1 with | some t' => prun P E rec ops u r fs t' x.2 | none => none)
          | none => none)))
  | u, .two p q, fs, t, h => (match u with
    | some _ => none
    | none => (match prun P E rec ops none p fs t h, prun P E rec ops none q fs t h with
      | some L, some M => some (L ++ M)
      | _, _ => none))
  | u, .al i s, fs, t, h => (match u with
    | some _ => none
    | none => (match ops[i]? with
      | none => none
      | some o => (match ahead P o i t h with | some (pd, t', h') => prun P E rec ops (some pd) s fs t' h' | none => none)))
  | u, .cm r, fs, t, h => (match u with
    | none => none
    | some pd => gd (pdKeep P ops fs (some pd) h) (match tput t (some pd.d) pd.x with | some t' => prun P E rec ops none r fs t' h | none => none))
theorem upF_self {F : Nat → World → Prop} {k : Nat} (h : F k = fun _ => True) : upF F k (fun _ => True) = F := by funext q; unfold upF; split <;> simp_all
theorem wpOp_at {rd : Option Nat} {ops : Array Oper} {Q : Exit → Act → World → Prop} {k : Nat} {K : Act → World → Prop} {a : Act} {w : World} {o : Oper} (ho : ops[k]? = some o)
    (H : (Region.wanted o (yielded ops a.tmps) = true ∧ o.wpIn (FW rd) 0 P a w K Q) ∨ (Region.wanted o (yielded ops a.tmps) = false ∧ K (a.put o.dst undef) w)) : wpOpIn (FW rd) 0 P ops Q k K a w := by
  unfold wpOpIn
  rw [ho]
  rcases H with ⟨h1, h2⟩ | ⟨h1, h2⟩
  · simp only [h1, if_true]; exact h2
  · simp only [h1, Bool.false_eq_true, if_false]; exact ⟨fun _ _ => trivial, h2⟩
structure AheadOk (P : Program) (ops : Array Oper) (p : Pend) : Prop where
  op : ∃ o, ops[p.i]? = some o ∧ o.guard = none ∧ o.dst = some p.d ∧ ∀ (ρ : Operand → Value) (w : World), ∃ ob N, (execOp ρ o).run P w = .ok (.value (.pointer (some ⟨w.heap.size, 0, none⟩))) (w.alloc ob) ∧ ∀ j, OR j N p.o ob
  x : p.x = .v (.c (.p p.n 0))
theorem Rel.ahead {i : Inj} {g : Nat → Option AO} {n : Nat} {w : World} (h : Rel w0 i g n w) (o : AO) : Rel ⟨w0.w, fun x => w0.gh x ∨ x = n⟩ i (up g n o) (n + 1) w := by
  have look : ∀ {b k N}, i b = some (k, N) → up g n o b = g b := fun {b k N} hb => by
    have := h.dom b _ hb
    unfold up
    rw [if_neg (by omega)]
  refine ⟨h.mod, fun b y hb => by have := h.dom b y hb; omega, h.lo, fun b1 b2 k N1 N2 o1 o2 h1 h2 h3 h4 h5 h6 => ?_, fun b o1 k N h1 h2 => ?_, fun b hb => ?_⟩
  · rw [look h1] at h3
    rw [look h2] at h4
    exact h.inj b1 b2 k N1 N2 o1 o2 h1 h2 h3 h4 h5 h6
  · rw [look h2] at h1
    exact h.obj b o1 k N h1 h2
  · rcases hb with hb | rfl
    · have := h.gh b hb; exact ⟨by omega, this.2⟩
    · refine ⟨by omega, ?_⟩
      cases e : i b with
      | none => rfl
      | some y => have := h.dom b y e; omega
theorem ahead_eq {ops : Array Oper} {o : Oper} {k : Nat} {t t' : T} {h h' : Hp} {pd : Pend} (ho : ops[k]? = some o) (hh : ahead P o k t h = some (pd, t', h')) :
    pd.i = k ∧ AheadOk P ops pd ∧ pd.n = h.n ∧ h'.n = h.n + 1 ∧ h'.m.get = up h.m.get h.n pd.o ∧ t'.n = t.n ∧ t'.d = t.d ∧ pd.d < t.n ∧ ∀ s, t'.m.get s = if s = pd.d then none else t.m.get s := by
  unfold ahead at hh
  split at hh
  · rename_i e d h1 h2 h3
    split at hh
    · rename_i x h4 ha
      split at hh
      · rename_i ao m hao hm
        simp only [wNat_eq, gd_eq] at hh
        obtain ⟨hd, hh⟩ := hh
        simp at hh
        obtain ⟨rfl, rfl, rfl⟩ := hh
        unfold aAlloc at ha
        split at ha
        · rename_i z hz
          obtain ⟨l, hb, hl⟩ := wCels_eq ha
          split at hb
          · rename_i h5 hn
            simp at hb
            obtain ⟨rfl, rfl⟩ := hb
            unfold aNew at hn
            split at hn
            · rename_i tr ht
              split at hn
              · rename_i mm hmm
                simp at hn
                subst hn
                have eg : mm.get = up h.m.get h.n (.c e tr) := up_get hmm
                dsimp only at hao
                rw [eg] at hao
                simp [up] at hao
                subst hao
                refine ⟨rfl, ⟨⟨o, ho, h2, h3, fun ρ w => ⟨.cells z.cells e, z.cells.size, ?_, fun j => ?_⟩⟩, rfl⟩, rfl, rfl, eg, rfl, rfl, by simpa [Nat.blt_eq] using hd, Tri.get_del _ _ _ _ hm⟩
                · simp [execOp, h1, Instr.alloc, zeroOf_run hz, newVar, run_newRow']
                · refine ⟨z.cells, rfl, rfl, fun q y hq => ?_⟩
                  rw [triOf_eq _ _ _ _ ht] at hq
                  split at hq
                  · simp at hq
                    obtain ⟨u, g1, g2⟩ := (hl j).get q y hq
                    exact ⟨u, by simpa using g1, g2⟩
                  · simp [Tri.get] at hq
              · cases hn
            · cases hn
          · cases hb
        · cases ha
      · cases hh
    · cases hh
  · cases hh
inductive Hold (P : Program) (ops : Array Oper) (w0 : Base) : Option Pend → Bool → Inj → T → Hp → Act → World → Prop where
  | no {ex i t h a w} (hR : Rel w0 i h.m.get h.n w) : Hold P ops w0 none ex i t h a w
  | laid {pd i t h a w} (hA : AheadOk P ops pd) (hd : pd.d < t.n) (hR : Rel w0 i h.m.get h.n w) (hv : AR i pd.x (a.tmps.getD pd.d undef)) : Hold P ops w0 (some pd) true i t h a w
  | yet {pd i t h a w} (hA : AheadOk P ops pd) (hd : pd.d < t.n) (hg : ¬ w0.gh pd.n) (hz : t.m.get pd.d = none) (hR : Rel ⟨w0.w, fun x => w0.gh x ∨ x = pd.n⟩ i h.m.get h.n w) : Hold P ops w0 (some pd) false i t h a w
def under (w0 : Base) : Option Pend → Bool → Base
  | some pd, false => ⟨w0.w, fun x => w0.gh x ∨ x = pd.n⟩
  | _, _ => w0
def wpu : Option Pend → Bool → Option Nat
  | some pd, false => some pd.i
  | _, _ => none
theorem Hold.rel {ops : Array Oper} {u : Option Pend} {ex : Bool} {i : Inj} {t : T} {h : Hp} {a : Act} {w : World} (H : Hold P ops w0 u ex i t h a w) : Rel (under w0 u ex) i h.m.get h.n w := by
  cases H with
  | no hR => cases ex <;> exact hR
  | laid _ _ hR _ => exact hR
  | yet _ _ _ _ hR => exact hR
theorem getD_put {a : Act} {d : Option Tmp} {v : Value} {s : Tmp} (h : d ≠ some s) : (a.put d v).tmps.getD s undef = a.tmps.getD s undef := by
  cases d with
  | none => rfl
  | some d =>
    have hne : d ≠ s := fun e => h (by rw [e])
    simp [Act.put, Array.getElem?_setIfInBounds_ne hne]
theorem pdDst_ne {pd : Pend} {d : Option Tmp} (h : pdDst (some pd) d = true) : d ≠ some pd.d := by
  intro e
  subst e
  simp [pdDst] at h
theorem tput_n {t t' : T} {d : Option Tmp} {x : AV} (h : tput t d x = some t') : t'.n = t.n ∧ ∀ s, d ≠ some s → t'.m.get s = t.m.get s := by
  cases d with
  | none => simp [tput] at h; subst h; exact ⟨rfl, fun _ _ => rfl⟩
  | some d =>
    simp only [tput, gd_eq] at h
    obtain ⟨_, h⟩ := h
    split at h
    · rename_i m hm
      simp at h
      subst h
      refine ⟨rfl, fun s hs => ?_⟩
      dsimp only
      rw [Tri.get_set _ _ _ _ _ hm, if_neg (fun e => hs (by rw [e]))]
    · cases h
theorem Hold.step {ops : Array Oper} {u : Option Pend} {ex : Bool} {i j : Inj} {t t' : T} {h h' : Hp} {a a' : Act} {w w' : World} (H : Hold P ops w0 u ex i t h a w) (hj : Le i j) {d : Option Tmp} {x : AV} (ht : tput t d x = some t') (hd : pdDst u d = true)
    (hR : Rel (under w0 u ex) j h'.m.get h'.n w') (ha : ∀ s, d ≠ some s → a'.tmps.getD s undef = a.tmps.getD s undef) : Hold P ops w0 u ex j t' h' a' w' := by
  obtain ⟨hn, hs⟩ := tput_n ht
  cases H with
  | no _ => exact .no (by cases ex <;> exact hR)
  | laid hA hl _ hv => exact .laid hA (by rw [hn]; exact hl) hR (by rw [ha _ (pdDst_ne hd)]; exact hv.mono hj)
  | yet hA hl hg hz _ => exact .yet hA (by rw [hn]; exact hl) hg (by rw [hs _ (pdDst_ne hd)]; exact hz) hR
theorem lay_eq {rd : Option Nat} {ops : Array Oper} (hsm : Sm rd ops) {i : Inj} {pd : Pend} {t : T} {h : Hp} {a : Act} {w : World} {Q : Exit → Act → World → Prop} {K : Act → World → Prop} (hT : TR i t a) (H : Hold P ops w0 (some pd) false i t h a w) (hb : h.m.get pd.n = some pd.o)
    (hK : ∀ j v w', Le i j → Hold P ops w0 (some pd) true j t h (a.put (some pd.d) v) w' → TR j t (a.put (some pd.d) v) → Rel w0 j h.m.get h.n w' → K (a.put (some pd.d) v) w') : wpOpIn (FW rd) 0 P ops Q pd.i K a w := by
  cases H with
  | yet hA hl hg hz hR =>
    obtain ⟨⟨o, ho, hgd, hdst, hex⟩, hx⟩ := hA
    obtain ⟨ob, N, he, hor⟩ := hex a.eval w
    refine wpOp_at ho (.inl ⟨by simp [Region.wanted, hgd], ?_⟩)
    rw [Oper.wpIn_iff (hsm _ _ ho), he, Oper.uponIn_value, hdst]
    have hR' := hR.late hg N hb (hor _)
    have hle : Le i (put i pd.n (w.heap.size, N)) := fun c z hc => by
      unfold put
      rw [if_neg (fun e => by subst e; rw [(hR.gh pd.n (.inr rfl)).2] at hc; cases hc)]
      exact hc
    have hxv : AR (put i pd.n (w.heap.size, N)) pd.x (.pointer (some ⟨w.heap.size, 0, none⟩)) := by
      rw [hx]
      exact ⟨w.heap.size, N, by simp [put], rfl⟩
    refine hK _ _ _ hle (.laid ⟨⟨o, ho, hgd, hdst, hex⟩, hx⟩ hl hR' ?_) ⟨(hT.mono hle).defers, by simpa [Act.put] using hT.size, fun s y hs => ?_⟩ hR'
    · have : pd.d < a.tmps.size := by rw [hT.size]; exact hl
      simpa [Act.put, Array.getD, this] using hxv
    · have hne : pd.d ≠ s := fun e => by subst e; rw [hz] at hs; cases hs
      rw [getD_put (by simpa using hne)]
      exact (hT.mono hle).slot s y hs
theorem prun_eq {rd : Option Nat} {E : Env} (hE : EOk P E) {rec : Rec} (hrec : Sound P rec) {ops : Array Oper} (hsm : Sm rd ops) {i0 : Inj} {M : List (T × Hp)} : ∀ (p : Pl) (u : Option Pend) (ex : Bool) (fs : List Fact) (F : Nat → World → Prop) (t : T) (h : Hp) (L : List (T × Hp)), prun P E rec ops u p fs t h = some L → (∀ r ∈ L, r ∈ M) →
    ∀ i a w, Le i0 i → TR i t a → Hold P ops w0 u ex i t h a w → FR P i fs F → wpP rd P .any ops (FinN w0 i0 M) (wpu u ex) F p a w
  | .nil, u, ex, fs, F, t, h, L, hh, hM, i, a, w, hi, hT, hH, hF => by
    cases u with
    | some pd => simp [prun] at hh
    | none =>
      simp [prun] at hh
      subst hh
      have hR := hH.rel
      exact ⟨rfl, (t, h), hM _ (List.mem_singleton.2 rfl), i, hi, hT, by cases ex <;> exact hR⟩
  | .go k false r, u, ex, fs, F, t, h, L, hh, hM, i, a, w, hi, hT, hH, hF => by
    unfold prun at hh
    split at hh
    · cases hh
    · rename_i o ho
      rw [gd_eq, Bool.and_eq_true] at hh
      obtain ⟨⟨hn, hpd⟩, hh⟩ := hh
      have hFk := hF.new hn
      have go : ∀ (T : World → Prop) (v : Value), YieldsIf P ops T o v a → T w → wpP rd P .any ops (FinN w0 i0 M) (wpu u ex) (upF F k T) r (a.put o.dst v) w → wpP rd P .any ops (FinN w0 i0 M) (wpu u ex) F (.go k false r) a w := by
        intro T v h1 h2 h3
        generalize wpu u ex = q at h3 ⊢
        cases q <;> exact ⟨T, o, v, hFk, ho, h1, h2, h3⟩
      split at hh
      · cases hh
      · rename_i hw
        split at hh
        · rename_i t' ht
          refine go (fun _ => True) undef (.inr ⟨want_eq hT hw, rfl⟩) trivial ?_
          rw [upF_self hFk]
          exact prun_eq hE hrec hsm r u ex fs F t' h L hh hM i _ w hi (tput_eq hT ht (udf_eq i)) (hH.step (Le.refl i) ht hpd hH.rel fun s hs => getD_put hs) hF
        · cases hh
      · rename_i hw
        split at hh
        · rename_i x hx
          split at hh
          · rename_i t' ht
            obtain ⟨v, h1, h2⟩ := afree_eq (P := P) hT hx
            refine go (fun _ => True) v (.inl ⟨want_eq hT hw, fun w _ => h1 w⟩) trivial ?_
            rw [upF_self hFk]
            exact prun_eq hE hrec hsm r u ex fs F t' h L hh hM i _ w hi (tput_eq hT ht h2) (hH.step (Le.refl i) ht hpd hH.rel fun s hs => getD_put hs) hF
          · cases hh
        · split at hh
          · rename_i x hx
            split at hh
            · rename_i t' ht
              obtain ⟨v, h1, h2⟩ := areadB_eq (P := P) hT hH.rel hx
              refine go (fun w => (execOp a.eval o).run P w = .ok (.value v) w) v (.inl ⟨want_eq hT hw, fun w hw => hw⟩) h1 ?_
              exact prun_eq hE hrec hsm r u ex _ _ t' h L hh hM i _ w hi (tput_eq hT ht h2) (hH.step (Le.refl i) ht hpd hH.rel fun s hs => getD_put hs) (hF.add hT h2)
            · cases hh
          · cases hh
  | .go k true r, u, ex, fs, F, t, h, L, hh, hM, i, a, w, hi, hT, hH, hF => by
    unfold prun at hh
    split at hh
    · cases hh
    rename_i o ho
    rw [gd_eq, Bool.and_eq_true] at hh
    obtain ⟨⟨hpd, hpk⟩, hh⟩ := hh
    have body : ∀ (ex : Bool) (i : Inj) (a : Act) (w : World), Le i0 i → TR i t a → Hold P ops w0 u ex i t h a w → FR P i fs F →
        wpOpIn (FW rd) 0 P ops (FinN w0 i0 M) k (fun a' w' => (∀ q, wt .any ops k q = false → F q w → F q w') ∧ wpP rd P .any ops (FinN w0 i0 M) (wpu u ex) F r a' w') a w := by
      intro ex i a w hi hT hH hF
      refine wpOp_at ho ?_
      split at hh
      · cases hh
      · rename_i hw
        refine .inr ⟨want_eq hT hw, fun _ _ h => h, ?_⟩
        split at hh
        · rename_i t' ht
          exact prun_eq hE hrec hsm r u ex fs F t' h L hh hM i _ w hi (tput_eq hT ht (udf_eq i)) (hH.step (Le.refl i) ht hpd hH.rel fun s hs => getD_put hs) hF
        · cases hh
      · rename_i hw
        refine .inl ⟨want_eq hT hw, ?_⟩
        split at hh
        · rename_i p hp
          split at hh
          · rename_i t' ht
            obtain ⟨d, e1, e2⟩ := odef_eq (P := P) hT hp
            rw [Oper.wpIn_iff (hsm k o ho), e1 w, Oper.uponIn_defer]
            refine ⟨fun _ _ h => h, prun_eq hE hrec hsm r u ex fs F t' h L hh hM i _ w hi (tput_eq (hT.defer e2) ht (udf_eq i)) ?_ hF⟩
            have hH' : Hold P ops w0 u ex i ⟨t.n, t.m, p :: t.d⟩ h { a with defers := d :: a.defers } w := by
              cases hH with
              | no hR => exact .no hR
              | laid hA hl hR hv => exact .laid hA hl hR hv
              | yet hA hl hg hz hR => exact .yet hA hl hg hz hR
            exact hH'.step (Le.refl i) ht hpd hH'.rel fun s hs => getD_put hs
          · cases hh
        · split at hh
          · rename_i N hN
            refine ostep_eq hE hrec hT hH.rel hN (hsm k o ho) fun x hx j v w' hj hv hR' => ?_
            obtain ⟨y, hy, hyL⟩ := bindL_eq hh x hx
            rw [gd_eq] at hy
            obtain ⟨hall, hy⟩ := hy
            split at hy
            · rename_i t' ht
              exact ⟨hF.keep hj hR' hall, prun_eq hE hrec hsm r u ex fs F t' x.2 y hy (fun r hr => hM r (hyL r hr)) j _ w' (hi.trans hj) (tput_eq (hT.mono hj) ht hv) (hH.step hj ht hpd hR' fun s hs => getD_put hs) (hF.mono hj)⟩
            · cases hy
          · cases hh
    cases hH with
    | no hR =>
      have := body ex i a w hi hT (.no hR) hF
      cases ex <;> exact this
    | laid hA hl hR hv => exact body true i a w hi hT (.laid hA hl hR hv) hF
    | yet hA hl hg hz hR =>
      rename_i pd
      simp only [pdKeep, Bool.and_eq_true] at hpk
      refine ⟨body false i a w hi hT (.yet hA hl hg hz hR) hF, lay_eq hsm hT (.yet hA hl hg hz hR) (isO_eq hpk.1) fun j v w' hj hH' hT' hR' => ?_⟩
      exact ⟨hF.keep hj hR' hpk.2, body true j _ w' (hi.trans hj) hT' hH' (hF.mono hj)⟩
  | .two p q, u, ex, fs, F, t, h, L, hh, hM, i, a, w, hi, hT, hH, hF => by
    cases u with
    | some pd => simp [prun] at hh
    | none =>
      simp only [prun] at hh
      split at hh
      · rename_i L1 L2 h1 h2
        simp at hh
        subst hh
        have r1 := prun_eq hE hrec hsm p none ex fs F t h L1 h1 (fun r hr => hM r (List.mem_append_left _ hr)) i a w hi hT hH hF
        have r2 := prun_eq hE hrec hsm q none ex fs F t h L2 h2 (fun r hr => hM r (List.mem_append_right _ hr)) i a w hi hT hH hF
        cases ex <;> exact ⟨r1, r2⟩
      · cases hh
  | .al k s, u, ex, fs, F, t, h, L, hh, hM, i, a, w, hi, hT, hH, hF => by
    cases u with
    | some pd => simp [prun] at hh
    | none =>
      simp only [prun] at hh
      split at hh
      · cases hh
      · rename_i o ho
        split at hh
        · rename_i pd t' h' ha
          obtain ⟨rfl, hA, e1, e2, e3, e4, e5, e6, e7⟩ := ahead_eq ho ha
          have hR : Rel w0 i h.m.get h.n w := by have := hH.rel; cases ex <;> exact this
          have hT' : TR i t' a := ⟨by rw [e5]; exact hT.defers, by rw [e4]; exact hT.size, fun s x hs => by
            rw [e7] at hs
            split at hs
            · cases hs
            · exact hT.slot s x hs⟩
          have hR' := hR.ahead pd.o
          rw [← e3, ← e2, ← e1] at hR'
          have := prun_eq hE hrec hsm s (some pd) false fs F t' h' L hh hM i a w hi hT' (.yet hA (by rw [e4]; exact e6) (fun hg => by have := (hR.gh _ hg).1; omega) (by rw [e7, if_pos rfl]) hR') hF
          cases ex <;> exact this
        · cases hh
  | .cm r, u, ex, fs, F, t, h, L, hh, hM, i, a, w, hi, hT, hH, hF => by
    cases u with
    | none => simp [prun] at hh
    | some pd =>
      simp only [prun] at hh
      rw [gd_eq] at hh
      obtain ⟨hpk, hh⟩ := hh
      simp only [pdKeep, Bool.and_eq_true] at hpk
      split at hh
      · rename_i t' ht
        have done : ∀ j a w, Le i0 j → TR j t a → Hold P ops w0 (some pd) true j t h a w → FR P j fs F → wpP rd P .any ops (FinN w0 i0 M) none F r a w := by
          intro j a w hj hT hH hF
          cases hH with
          | laid hA hl hR hv =>
            refine prun_eq hE hrec hsm r none true fs F t' h L hh hM j a w hj ?_ (.no hR) hF
            simp only [tput, gd_eq] at ht
            obtain ⟨_, ht⟩ := ht
            split at ht
            · rename_i m hm
              simp at ht
              subst ht
              refine ⟨hT.defers, hT.size, fun s y hs => ?_⟩
              dsimp only at hs
              rw [Tri.get_set _ _ _ _ _ hm] at hs
              split at hs
              · rename_i e
                subst e
                simp at hs
                subst hs
                exact hv
              · exact hT.slot s y hs
            · cases ht
        cases hH with
        | laid hA hl hR hv => exact done i a w hi hT (.laid hA hl hR hv) hF
        | yet hA hl hg hz hR =>
          exact lay_eq hsm hT (.yet hA hl hg hz hR) (isO_eq hpk.1) fun j v w' hj hH' hT' hR' => ⟨hF.keep hj hR' hpk.2, done j _ w' (hi.trans hj) hT' hH' (hF.mono hj)⟩
      · cases hh
/- code -/
def nrm (r : T × Hp) : Out := (.normal, r.1, r.2)
def loopA (rec : Rec) (c : Code) : Nat → T → Hp → Option (List Out)
  | 0, _, _ => none
  | n + 1, t, h => match rec c t h with
    | some L => bindL L fun r => (match r.1 with | .normal => loopA rec c n r.2.1 r.2.2 | _ => some [r])
    | none => none
def rcallee (t : Tri AV) (g : Operand) (l : Nat) : Option (FuncId × List AV) :=
  match ev t g with
  | some (.v (.c (.x (.func (.func g) fst cap)))) => gd (Nat.beq fst.size 0 && Nat.beq cap.size 0) (some (g, [.v (.c (.y l))]))
  | some (.v (.c (.f g fs cs))) => some (g, fs.map capA ++ .v (.c (.y l)) :: cs.map capA)
  | _ => none
theorem rcallee_eq {i j : Inj} {t : T} {a : Act} {g : Operand} {l k N : Nat} {gf : FuncId} {xs : List AV} (hT : TR i t a) (hij : Le i j) (hj : j l = some (k, N)) (h : rcallee t.m g l = some (gf, xs)) :
    ∃ caps args : Array Value, resolve a.eval (rangeCall g k) 0 = pure { target := .fn (.func gf) caps, args := args } ∧ LR (AR j) xs (args ++ caps).toList := by
  unfold rcallee at h
  have hy : AR j (.v (.c (.y l))) (.func (.yield k) #[] #[]) := ⟨k, N, hj, rfl⟩
  have ec : a.eval (.const (.func (.yield k) #[] #[])) = .func (.yield k) #[] #[] := rfl
  split at h
  · rename_i g' fst cap hf
    simp only [gd_eq, Bool.and_eq_true] at h
    obtain ⟨⟨h1, h2⟩, h⟩ := h
    simp at h
    obtain ⟨rfl, rfl⟩ := h
    obtain rfl : fst = #[] := by simpa using beq_of h1
    obtain rfl : cap = #[] := by simpa using beq_of h2
    have hv := (ev_eq hT hf).1
    exact ⟨#[], #[.func (.yield k) #[] #[]], by simp [resolve, hv, ec, Deferred.ofValue], ⟨hy, trivial⟩⟩
  · rename_i g' fs cs hf
    simp at h
    obtain ⟨rfl, rfl⟩ := h
    obtain ⟨vs, us, hv, hvs, hus⟩ := (ev_eq hT hf).mono hij
    refine ⟨us, vs ++ #[.func (.yield k) #[] #[]], by simp [resolve, hv, ec, Deferred.ofValue], ?_⟩
    have := LR.app (capA_eq hvs) (LR.app (l := [.v (.c (.y l))]) (m := [.func (.yield k) #[] #[]]) (l' := cs.map capA) (m' := us.toList) ⟨hy, trivial⟩ (capA_eq hus))
    simpa using this
  · cases h
def pushH (h : Hp) (o : AO) : Option Hp := match h.m.set 64 h.n o with | some m => wNat (h.n + 1) fun n => some ⟨m, n⟩ | none => none
theorem pushH_eq {i : Inj} {h h' : Hp} {w : World} (hR : Rel w0 i h.m.get h.n w) {o : AO} {ob : Obj} (hp : pushH h o = some h') (ho : OR (put i h.n (w.heap.size, 0)) 0 o ob) :
    Rel w0 (put i h.n (w.heap.size, 0)) h'.m.get h'.n (w.alloc ob) ∧ h'.n = h.n + 1 := by
  unfold pushH at hp
  split at hp
  · rename_i m hm
    simp at hp
    subst hp
    have e : m.get = up h.m.get h.n o := by funext j; rw [Tri.get_set _ _ _ _ _ hm]; rfl
    refine ⟨?_, rfl⟩
    dsimp only
    rw [e]
    exact hR.alloc 0 ho
  · cases hp
def jump (t : T) (h : Hp) : Option Code → Option (List Out)
  | none => some [(.normal, t, h)]
  | some .ret => some [(.ret, t, h)]
  | some (.exit id) => some [(.ex id, t, h)]
  | _ => none
def endLo (h : Hp) (l : Nat) : Option (Option Code × Hp) :=
  match h.m.get l with
  | some (.lo .busy _ _ _ _ _ _ _) => none
  | some (.lo _ p _ _ _ _ _ _) => (match setH h l .d with | some h' => some (p, h') | none => none)
  | _ => none
theorem endLo_eq {i : Inj} {h h' : Hp} {w : World} {l k N : Nat} {p : Option Code} (hR : Rel w0 i h.m.get h.n w) (hi : i l = some (k, N)) (he : endLo h l = some (p, h')) :
    ∃ w', (Instr.endLoop k).run P w = .ok p w' ∧ Rel w0 i h'.m.get h'.n w' := by
  unfold endLo at he
  split at he
  · cases he
  · rename_i st p0 n m ps asg body D hnb hb
    split at he
    · rename_i h2 hs
      simp at he
      obtain ⟨rfl, rfl⟩ := he
      obtain ⟨ob, h4, r, rfl, e1, e2, _⟩ := hR.obj l _ k N hb hi
      obtain ⟨q1, q2⟩ := setH_eq hs
      refine ⟨_, by rw [run_endLoop h4 (by rw [e1]; exact hnb), e2], ?_⟩
      rw [q1, q2]
      exact hR.setObj hb (by simp) hi (o' := .d) trivial
    · cases he
  · cases he
def arange (P : Program) (rec : Rec) (g : Operand) (ps : Array Tmp) (asg body : Code) (t : T) (h : Hp) : Option (List Out) :=
  wNat (h.n + 1) fun l => (match rcallee t.m g l, pushH h (.df true) with
    | some (gf, xs), some h1 => (match pushH h1 (.lo .ready none t.n t.m ps.toList asg body h.n) with
      | some h2 => (match acall P rec gf xs h2 with
        | some L => bindL L fun r => (match endLo r.2 l with
          | some (p, h3) => jump ⟨t.n, t.m, .m h.n :: t.d⟩ h3 p
          | none => none)
        | none => none)
      | none => none)
    | _, _ => none)
theorem arange_eq {rec : Rec} (hrec : Sound P rec) {g : Operand} {ps : Array Tmp} {asg body : Code} {t : T} {h : Hp} {L : List Out} (hh : arange P rec g ps asg body t h = some L) {i : Inj} {a : Act} {w : World} (hT : TR i t a) (hR : Rel w0 i h.m.get h.n w) :
    (Code.rangeFunc g ps asg body).wpIn (FW none) 0 P (Fin w0 i L) a w := by
  unfold arange at hh
  rw [wNat_eq] at hh
  split at hh
  · rename_i gf xs h1 hg hp1
    split at hh
    · rename_i h2 hp2
      split at hh
      · rename_i M hM
        refine wpIn_rangeFunc fun fn _ => ?_
        obtain ⟨R1, n1⟩ := pushH_eq hR hp1 (ob := .deferred (some [])) rfl
        have l1 : Le i (put i h.n (w.heap.size, 0)) := hR.le _
        have hT1 := hT.mono (R1.le ((w.alloc (.deferred (some []))).heap.size, 0) |> l1.trans)
        obtain ⟨R2, n2⟩ := pushH_eq R1 hp2 (ob := .loop { state := .ready, pending := none, fn, tmps := a.tmps, params := ps, assign := asg, body, defers := w.heap.size })
          ⟨_, rfl, rfl, rfl, by simp, rfl, rfl, ⟨w.heap.size, 0, R1.le _ _ _ (by simp [put]), rfl⟩, hT.size, hT1.slot⟩
        have hl : put (put i h.n (w.heap.size, 0)) h1.n ((w.alloc (.deferred (some []))).heap.size, 0) (h.n + 1) = some (w.heap.size + 1, 0) := by simp [put, n1]
        have hle := l1.trans (R1.le ((w.alloc (.deferred (some []))).heap.size, 0))
        obtain ⟨caps, args, hres, hxs⟩ := rcallee_eq hT hle hl hg
        have hfn : ∃ r, fnOk P gf = some r := by
          unfold acall at hM
          split at hM
          · rename_i fn c _ hgf _; exact ⟨_, hgf⟩
          · cases hM
        obtain ⟨⟨fn', c'⟩, hgf⟩ := hfn
        refine ⟨w.heap.size + 1, _, _, _, _, gf, args ++ caps, _, run_enterLoop_outer fn a.tmps ps asg body, by rw [hres]; rfl, fun _ _ => trivial, by simp [invoke, callFunc_run hgf], fun h => (by cases h), CallsIn.mono (acall_eq hrec hM hxs R2) fun e w' he => ?_⟩
        obtain ⟨r, hr, j, v, rfl, hj, _, hR'⟩ := he
        obtain ⟨x, hx, hxL⟩ := bindL_eq hh r hr
        split at hx
        · rename_i p h3 he
          obtain ⟨w4, e1, e2⟩ := endLo_eq (P := P) hR' (hj _ _ hl) he
          refine ⟨p, w4, e1, ?_⟩
          have hD : j h.n = some (w.heap.size, 0) := hj _ _ (R1.le _ _ _ (by simp [put]))
          have hT2 : TR j ⟨t.n, t.m, .m h.n :: t.d⟩ { a with defers := [{ target := .collected w.heap.size, args := #[] }] ++ a.defers } :=
            ⟨⟨⟨_, _, hD, rfl⟩, (hT.mono (hle.trans hj)).defers⟩, hT.size, (hT.mono (hle.trans hj)).slot⟩
          unfold jump at hx
          split at hx
          · simp at hx; subst hx; exact ⟨_, hxL _ (List.mem_singleton.2 rfl), rfl, j, hle.trans hj, hT2, e2⟩
          · simp at hx; subst hx; exact wpIn_ret ⟨_, hxL _ (List.mem_singleton.2 rfl), rfl, j, hle.trans hj, hT2, e2⟩
          · simp at hx; subst hx; exact wpIn_exit ⟨_, hxL _ (List.mem_singleton.2 rfl), rfl, j, hle.trans hj, hT2, e2⟩
          · cases hx
        · cases hx
      · cases hh
    · cases hh
  · cases hh
def stepC (P : Program) (E : Env) (n : Nat) (rec : Rec) : Rec := fun c t h =>
  match c with
  | .skip => some [(.normal, t, h)]
  | .label _ => some [(.normal, t, h)]
  | .exit id => some [(.ex id, t, h)]
  | .ret => some [(.ret, t, h)]
  | .seq x y => (match rec x t h with
    | some L => bindL L fun r => (match r.1 with | .normal => rec y r.2.1 r.2.2 | _ => some [r])
    | none => none)
  | .cond c x y => (match ev t.m c with
    | some (.v (.c (.x (.bool b)))) => cond b (rec x t h) (rec y t h)
    | _ => none)
  | .block id c => (match rec c t h with
    | some L => bindL L fun r => (match r.1 with | .ex j => cond (Nat.beq j id) (some [(.normal, r.2)]) (some [r]) | _ => some [r])
    | none => none)
  | .loop c => loopA rec c n t h
  | .region id ops draw => cond draw
      (match planOf ops with
        | some p => gd (planChk ops p) (match prun P E rec ops none p [] t h with | some L => some (L.map nrm) | none => none)
        | none => none)
      (match orun P E rec ops ops.toList t h with | some L => some (L.map nrm) | none => none)
  | .rangeFunc g ps asg body => arange P rec g ps asg body t h
  | _ => none
theorem fin_of_finN {i : Inj} {L : List (T × Hp)} {e : Exit} {a : Act} {w : World} (h : FinN w0 i L e a w) : Fin w0 i (L.map nrm) e a w := by
  obtain ⟨rfl, r, hr, j, h1, h2, h3⟩ := h
  exact ⟨nrm r, List.mem_map_of_mem hr, rfl, j, h1, h2, h3⟩
theorem loopA_eq {rd : Option Nat} {rec : Rec} (hrec : Sound P rec) {c : Code} (hp : rd = none ∨ plainC c = true) : ∀ (n : Nat) (t : T) (h : Hp) (L : List Out), loopA rec c n t h = some L → ∀ i a w, TR i t a → Rel w0 i h.m.get h.n w → Code.roundsIn (FW rd) 0 P c (Fin w0 i L) n a w
  | 0, t, h, L, hh, _, _, _, _, _ => by cases hh
  | n + 1, t, h, L, hh, i, a, w, hT, hR => by
    unfold loopA at hh
    split at hh
    · rename_i M hM
      rw [roundsIn_succ]
      refine wpIn_mono (hrec w0 c t h M hM rd hp i a w hT hR) fun e a' w' hf => ?_
      obtain ⟨r, hr, rfl, j, hj, hT', hR'⟩ := hf
      obtain ⟨x, hx, hxL⟩ := bindL_eq hh r hr
      obtain ⟨e', t', h'⟩ := r
      cases e' with
      | normal =>
        have := loopA_eq hrec hp n t' h' x hx j a' w' hT' hR'
        exact rounds_mono (fun e a w hf => hf.mono hj hxL) n _ _ this
      | ex id => simp at hx; subst hx; exact ⟨(.ex id, t', h'), hxL _ (List.mem_singleton.2 rfl), rfl, j, hj, hT', hR'⟩
      | ret => simp at hx; subst hx; exact ⟨(.ret, t', h'), hxL _ (List.mem_singleton.2 rfl), rfl, j, hj, hT', hR'⟩
    · cases hh
where rounds_mono {c : Code} {Q Q' : Exit → Act → World → Prop} (hq : ∀ e a w, Q e a w → Q' e a w) : ∀ (n : Nat) (a : Act) (w : World), Code.roundsIn (FW rd) 0 P c Q n a w → Code.roundsIn (FW rd) 0 P c Q' n a w
    | 0, _, _, h => h.elim
    | n + 1, a, w, h => by
      rw [roundsIn_succ] at h ⊢
      exact wpIn_mono h fun e a w hh => by cases e <;> first | exact rounds_mono hq n a w hh | exact hq _ _ _ hh
theorem stepC_sound {E : Env} (hE : EOk P E) (hm : P.follows .mixedOrders = true) {n : Nat} {rec : Rec} (hrec : Sound P rec) : Sound P (stepC P E n rec) := by
  intro w0 c t h L hh rd hpl i a w hT hR
  unfold stepC at hh
  split at hh
  · simp at hh; subst hh; exact wpIn_skip ⟨_, List.mem_singleton.2 rfl, rfl, i, Le.refl i, hT, hR⟩
  · simp at hh; subst hh; exact wpIn_label ⟨_, List.mem_singleton.2 rfl, rfl, i, Le.refl i, hT, hR⟩
  · simp at hh; subst hh; exact wpIn_exit ⟨_, List.mem_singleton.2 rfl, rfl, i, Le.refl i, hT, hR⟩
  · simp at hh; subst hh; exact wpIn_ret ⟨_, List.mem_singleton.2 rfl, rfl, i, Le.refl i, hT, hR⟩
  · rename_i x y
    split at hh
    · rename_i M hM
      refine wpIn_seq (wpIn_mono (hrec w0 x t h M hM rd (hpl.imp id fun h => (Bool.and_eq_true _ _ ▸ h).1) i a w hT hR) fun e a' w' hf => ?_)
      obtain ⟨r, hr, rfl, j, hj, hT', hR'⟩ := hf
      obtain ⟨z, hz, hzL⟩ := bindL_eq hh r hr
      obtain ⟨e', t', h'⟩ := r
      cases e' with
      | normal => exact wpIn_mono (hrec w0 y t' h' z hz rd (hpl.imp id fun h => (Bool.and_eq_true _ _ ▸ h).2) j a' w' hT' hR') fun e a w hf => hf.mono hj hzL
      | ex id => simp at hz; subst hz; exact ⟨(.ex id, t', h'), hzL _ (List.mem_singleton.2 rfl), rfl, j, hj, hT', hR'⟩
      | ret => simp at hz; subst hz; exact ⟨(.ret, t', h'), hzL _ (List.mem_singleton.2 rfl), rfl, j, hj, hT', hR'⟩
    · cases hh
  · rename_i c x y
    split at hh
    · rename_i b hb
      have hv := (ev_eq hT hb).1
      cases b with
      | true => exact wpIn_cond_true hv (hrec w0 x t h L hh rd (hpl.imp id fun h => (Bool.and_eq_true _ _ ▸ h).1) i a w hT hR)
      | false => exact wpIn_cond_false hv (hrec w0 y t h L hh rd (hpl.imp id fun h => (Bool.and_eq_true _ _ ▸ h).2) i a w hT hR)
    · cases hh
  · rename_i id c
    split at hh
    · rename_i M hM
      refine wpIn_block (wpIn_mono (hrec w0 c t h M hM rd (show rd = none ∨ plainC c = true from hpl) i a w hT hR) fun e a' w' hf => ?_)
      obtain ⟨r, hr, rfl, j, hj, hT', hR'⟩ := hf
      obtain ⟨z, hz, hzL⟩ := bindL_eq hh r hr
      obtain ⟨e', t', h'⟩ := r
      cases e' with
      | normal => simp at hz; subst hz; exact ⟨(.normal, t', h'), hzL _ (List.mem_singleton.2 rfl), rfl, j, hj, hT', hR'⟩
      | ex id' =>
        show Exit.inBlock id (Fin w0 i L) (.exit id') a' w'
        dsimp only at hz
        cases hb : Nat.beq id' id with
        | true =>
          rw [hb] at hz
          simp at hz; subst hz
          simp only [Exit.inBlock, if_pos (beq_of hb)]
          exact ⟨(.normal, t', h'), hzL _ (List.mem_singleton.2 rfl), rfl, j, hj, hT', hR'⟩
        | false =>
          rw [hb] at hz
          simp at hz; subst hz
          have hne : ¬ id' = id := fun e => by rw [beq_tt e] at hb; cases hb
          simp only [Exit.inBlock, if_neg hne]
          exact ⟨(.ex id', t', h'), hzL _ (List.mem_singleton.2 rfl), rfl, j, hj, hT', hR'⟩
      | ret => simp at hz; subst hz; exact ⟨(.ret, t', h'), hzL _ (List.mem_singleton.2 rfl), rfl, j, hj, hT', hR'⟩
    · cases hh
  · rename_i c
    exact wpIn_loop_rounds n (loopA_eq hrec (show rd = none ∨ plainC c = true from hpl) n t h L hh i a w hT hR)
  · rename_i id ops draw
    cases draw with
    | true =>
      simp only [cond_true] at hh
      split at hh
      · rename_i p hp
        rw [gd_eq] at hh
        obtain ⟨hc, hh⟩ := hh
        split at hh
        · rename_i M hM
          simp at hh
          subst hh
          refine wpIn_mono (wp_region_pl (sm_of hpl) p hm hc (fun _ _ _ _ _ h => by cases h.1) (prun_eq hE hrec (sm_of hpl) (M := M) p none true [] (fun _ _ => True) t h M hM (fun _ h => h) i a w.drew (Le.refl i) hT (.no hR.drew) (fun k => .inl rfl))) fun e a w hf => fin_of_finN hf
        · cases hh
      · cases hh
    | false =>
      simp only [cond_false] at hh
      split at hh
      · rename_i M hM
        simp at hh
        subst hh
        exact wpIn_mono (wpIn_region_list (orun_eq hE hrec _ (fun o ho ρ => by
          obtain ⟨j, hj⟩ := List.getElem?_of_mem ho
          exact sm_of hpl j o (by simpa using hj) ρ) t h M hM i a w hT hR)) fun e a w hf => fin_of_finN hf
      · cases hh
  · rename_i g ps asg body
    rcases hpl with rfl | hpl
    · exact arange_eq hrec hh hT hR
    · cases hpl
  · cases hh
def crun (P : Program) (E : Env) (n : Nat) : Nat → Rec
  | 0 => fun _ _ _ => none
  | k + 1 => stepC P E n (crun P E n k)
theorem crun_sound {E : Env} (hE : EOk P E) (hm : P.follows .mixedOrders = true) (n : Nat) : ∀ k, Sound P (crun P E n k)
  | 0 => fun _ _ _ _ _ h => by cases h
  | k + 1 => stepC_sound hE hm (crun_sound hE hm n k)
def emp : Hp := ⟨.e, 0⟩
def runs (P : Program) (E : Env) (n k : Nat) (g : FuncId) (xs : List AV) (y : AV) : Bool :=
  match acall P (crun P E n k) g xs emp with
  | some L => L.all fun r => eqA y r.1
  | none => false
theorem emp_rel (w : World) : Rel ⟨w, fun _ => False⟩ (fun _ => none) emp.m.get emp.n w := ⟨Mod.refl _ _, fun _ _ h => (by cases h), fun _ _ _ h => (by cases h), fun _ _ _ _ _ _ _ h => (by cases h), fun _ _ _ _ _ h => (by cases h), fun _ h => h.elim⟩
theorem runs_eq {E : Env} (hE : EOk P E) (hm : P.follows .mixedOrders = true) {n k : Nat} {g : FuncId} {xs : List AV} {y : AV} {us : Array Value} {u : Value} (h : runs P E n k g xs y = true) (hx : LR (AR fun _ => none) xs us.toList) (hu : ∀ i v, AR i y v → v = u) (w : World) :
    Calls P g us w fun e w' => e = .returned u ∧ Mod (fun _ => False) w w' := by
  unfold runs at h
  split at h
  · rename_i L hL
    refine Calls.mono (calls_FW (acall_eq (crun_sound hE hm n k) hL hx (emp_rel w))) fun e w' he => ?_
    obtain ⟨r, hr, j, v, rfl, _, hv, hR⟩ := he
    have := eqA_eq (List.all_eq_true.1 h r hr)
    rw [← this] at hv
    rw [hu j v hv]
    exact ⟨rfl, hR.mod⟩
  · cases h
def EX (l : List (FuncId × XK)) : Env := ⟨l, fun _ _ _ => none⟩
theorem EX_ok {l : List (FuncId × XK)} (h : XAll P l) : EOk P (EX l) := ⟨fun _ _ hk => XAll_look h hk, fun _ _ _ _ _ h => (by cases h)⟩
theorem hu_true (i : Inj) (v : Value) (h : AR i (.v (.c (.x (.bool true)))) v) : v = .bool true := h.1
end
end R
end Go.Proofs.YtcccdlmngddalaaGreat
