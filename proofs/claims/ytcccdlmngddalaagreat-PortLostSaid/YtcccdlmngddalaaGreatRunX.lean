/- A run's operations, one by one: atomic accesses, ranges over maps and strings. -/
import Derived.Test.YtcccdlmngddalaaGreatRun8
import Derived.Laws.LoneSync
set_option linter.unusedVariables false
set_option linter.unusedSimpArgs false
set_option linter.unusedSectionVars false
namespace Go.Proofs.YtcccdlmngddalaaGreat
open Go.RowKit
namespace R
variable [vl : Val]
section
variable {P : Program} {w0 : Base} {i : Inj} {h : Hp} {w : World}
/- sync/atomic -/
inductive XK where
  | load (k : IntKind)
  | store
  | cas (k : IntKind)
  | add (k : IntKind)
  | fn (e : Array Value → Sem Value)
  | mk (m : Addr → Mark)
def semX : XK → Array Value → Sem Value
  | .load k => Extern.Atomic.loadT (.int k)
  | .store => Extern.Atomic.storeT
  | .cas k => Extern.Atomic.casT (.int k)
  | .add k => Extern.Atomic.update (Op.intArith .add) k true
  | .fn e => e
  | .mk m => Extern.Race.marked m
def ExtIs (P : Program) (g : FuncId) (k : XK) : Prop := ∃ fn, P.funcs[g]? = some fn ∧ (fn.name == "runtime.NumGoroutine") = false ∧ fn.body.isNone = true ∧ Extern.findNext fn = none ∧ Extern.find fn = some (semX k)
def intAt (h : Hp) (b o : Nat) (q : IntKind) : Option Int :=
  match h.m.get b with
  | some (.c _ t) => (match t.get o with
    | some (.x (.int q' n)) => cond (decide (q' = q)) (some n) none
    | _ => none)
  | _ => none
theorem intAt_eq (hR : Rel w0 i h.m.get h.n w) {b o k N : Nat} {q : IntKind} {n : Int} (hi : i b = some (k, N)) (ha : intAt h b o q = some n) : w.cell? ⟨k, o, none⟩ = some (.int q n) ∧ w.frozen? ⟨k, o, none⟩ = false := by
  unfold intAt at ha
  split at ha
  · rename_i e t hb
    split at ha
    · rename_i q' m ht
      by_cases hq : q' = q
      · rw [decide_eq_true hq] at ha
        simp at ha
        subst ha hq
        obtain ⟨u, h1, h2, h3⟩ := hR.cell hb hi ht
        exact ⟨by rw [h1, h2.1], h3⟩
      · rw [decide_eq_false hq] at ha; cases ha
    · cases ha
  · cases ha
def setAt (h : Hp) (b o : Nat) (c : Cel) : Option Hp :=
  match h.m.get b with
  | some (.c e t) => (match t.get o with
    | some _ => (match t.set 64 o c with | some t' => setH h b (.c e t') | none => none)
    | none => none)
  | _ => none
theorem setAt_eq (hR : Rel w0 i h.m.get h.n w) {b o k N : Nat} {c : Cel} {u : Value} {h' : Hp} (hi : i b = some (k, N)) (hc : CR i c u) (ha : setAt h b o c = some h') : Rel w0 i h'.m.get h'.n (w.setCell ⟨k, o, none⟩ u) ∧ (∃ v, w.cell? ⟨k, o, none⟩ = some v) ∧ w.frozen? ⟨k, o, none⟩ = false := by
  unfold setAt at ha
  split at ha
  · rename_i e t hb
    split at ha
    · rename_i old ht
      split at ha
      · rename_i t' ht'
        obtain ⟨q1, q2⟩ := setH_eq ha
        obtain ⟨v, h1, _, h3⟩ := hR.cell hb hi ht
        exact ⟨by rw [q1, q2]; exact hR.write hb hi ht (Tri.get_set _ _ _ _ _ ht') hc, ⟨v, h1⟩, h3⟩
      · cases ha
    · cases ha
  · cases ha
def plains : List AV → Option (List Value)
  | [] => some []
  | x :: l => match plain x, plains l with | some v, some m => some (v :: m) | _, _ => none
theorem plains_eq : ∀ {l : List AV} {m us : List Value}, plains l = some m → LR (AR i) l us → us = m
  | [], m, [], h, _ => by simp [plains] at h; exact h ▸ rfl
  | x :: l, m, u :: us, h, ⟨h1, h2⟩ => by
    simp only [plains] at h
    split at h
    · rename_i v m' hv hm
      simp at h
      subst h
      rw [plain_eq hv h1, plains_eq hm h2]
    · cases h
  | [], _, _ :: _, _, h => h.elim
  | _ :: _, _, [], _, h => h.elim
def aext (P : Program) (k : XK) (xs : List AV) (h : Hp) : Option (AV × Hp) :=
  match k, xs with
  | .load q, [.v (.c (.p b o))] => (match intAt h b o q with | some n => some (.v (.c (.x (.int q n))), h) | none => none)
  | .store, [.v (.c (.p b o)), .v (.c (.x (.int q n)))] => (match setAt h b o (.x (.int q n)) with | some h' => some (udf, h') | none => none)
  | .cas q, [.v (.c (.p b o)), .v (.c (.x (.int q1 x))), .v (.c (.x (.int q2 y)))] => gd (decide (q1 = q)) (gd (decide (q2 = q)) (match intAt h b o q with
    | some n => cond (decide (n = x)) (match setAt h b o (.x (.int q2 y)) with | some h' => some (boolA true, h') | none => none) (some (boolA false, h))
    | none => none))
  | .add q, [.v (.c (.p b o)), .v (.c (.x (.int q1 y)))] => gd (decide (q1 = q)) (match intAt h b o q with
    | some n => wInt (q.wrap (n + y)) fun s => (match setAt h b o (.x (.int q s)) with | some h' => some (.v (.c (.x (.int q s))), h') | none => none)
    | none => none)
  | .fn e, xs => (match plains xs with
    | some vs => (match pv P (e vs.toArray) with | some v => wAV v fun y => some (y, h) | none => none)
    | none => none)
  | .mk _, [.v (.c (.p b o))] => some (udf, h)
  | _, _ => none
theorem aext_eq (hR : Rel w0 i h.m.get h.n w) {g : FuncId} {k : XK} (hx : ExtIs P g k) {xs : List AV} {us : Array Value} {y : AV} {h' : Hp} (hl : LR (AR i) xs us.toList) (ha : aext P k xs h = some (y, h')) :
    ∃ v w', (callFunc g us).run P w = .ok (.value v) w' ∧ Rel w0 i h'.m.get h'.n w' ∧ AR i y v := by
  obtain ⟨fn, f1, f2, f3, f4, f5⟩ := hx
  obtain ⟨us⟩ := us
  unfold aext at ha
  split at ha
  · rename_i q b o
    match us, hl with
    | [_], ⟨⟨k, N, hi, rfl⟩, _⟩ =>
      split at ha
      · rename_i n hn
        simp at ha
        obtain ⟨rfl, rfl⟩ := ha
        obtain ⟨h1, h2⟩ := intAt_eq hR hi hn
        exact ⟨_, w, run_call_load f1 f2 f3 f4 q f5 h1, hR, rfl, rfl⟩
      · cases ha
  · rename_i b o q n
    match us, hl with
    | [_, _], ⟨⟨k, N, hi, rfl⟩, ⟨rfl, _⟩, _⟩ =>
      split at ha
      · rename_i h1 hs
        simp at ha
        obtain ⟨rfl, rfl⟩ := ha
        obtain ⟨r1, ⟨v, r2⟩, r3⟩ := setAt_eq hR hi (c := .x (.int q n)) (u := .int q n) ⟨rfl, rfl⟩ hs
        exact ⟨_, _, run_call_store f1 f2 f3 f4 f5 r2 r3, r1, udf_eq i⟩
      · cases ha
  · rename_i q b o q1 x q2 z
    simp only [gd_eq, decide_eq_true_eq] at ha
    obtain ⟨rfl, rfl, ha⟩ := ha
    match us, hl with
    | [_, _, _], ⟨⟨k, N, hi, rfl⟩, ⟨rfl, _⟩, ⟨rfl, _⟩, _⟩ =>
      split at ha
      · rename_i n hn
        obtain ⟨h1, h2⟩ := intAt_eq hR hi hn
        by_cases e : n = x
        · subst e
          rw [decide_eq_true rfl] at ha
          simp only [cond_true] at ha
          split at ha
          · rename_i h3 hs
            simp at ha
            obtain ⟨rfl, rfl⟩ := ha
            obtain ⟨r1, _, _⟩ := setAt_eq hR hi (c := .x (.int q2 z)) (u := .int q2 z) ⟨rfl, rfl⟩ hs
            exact ⟨_, _, run_call_cas_hit f1 f2 f3 f4 q2 f5 h1 h2, r1, boolA_eq true⟩
          · cases ha
        · rw [decide_eq_false e] at ha
          simp at ha
          obtain ⟨rfl, rfl⟩ := ha
          exact ⟨_, w, run_call_cas_miss f1 f2 f3 f4 q2 f5 h1 h2 e, hR, boolA_eq false⟩
      · cases ha
  · rename_i q b o q1 z
    simp only [gd_eq, decide_eq_true_eq] at ha
    obtain ⟨rfl, ha⟩ := ha
    match us, hl with
    | [_, _], ⟨⟨k, N, hi, rfl⟩, ⟨rfl, _⟩, _⟩ =>
      split at ha
      · rename_i n hn
        obtain ⟨h1, h2⟩ := intAt_eq hR hi hn
        simp only [wInt_eq] at ha
        split at ha
        · rename_i h3 hs
          simp at ha
          obtain ⟨rfl, rfl⟩ := ha
          obtain ⟨r1, _, _⟩ := setAt_eq hR hi (c := .x (.int q1 (q1.wrap (n + z)))) (u := .int q1 (q1.wrap (n + z))) ⟨rfl, rfl⟩ hs
          exact ⟨_, _, run_call_add f1 f2 f3 f4 q1 f5 h1 h2 rfl, r1, rfl, rfl⟩
        · cases ha
      · cases ha
  · rename_i e
    split at ha
    · rename_i vs hvs
      split at ha
      · rename_i v hv
        obtain ⟨z, ha, hz⟩ := wAV_eq ha
        simp at ha
        obtain ⟨rfl, rfl⟩ := ha
        obtain rfl : us = vs := plains_eq hvs hl
        exact ⟨v, w, by rw [run_callFunc_extern f1 f2 f3 f4 f5]; show ((e us.toArray).run P w).andThen _ = _; rw [pv_run w hv]; rfl, hR, hz i⟩
      · cases ha
    · cases ha
  · rename_i m b o
    simp at ha
    obtain ⟨rfl, rfl⟩ := ha
    match us, hl with
    | [_], ⟨⟨k, N, hi, rfl⟩, _⟩ => exact ⟨_, w, run_call_marked f1 f2 f3 f4 m f5 _ w, hR, udf_eq i⟩
  · cases ha
def XAll (P : Program) : List (FuncId × XK) → Prop
  | [] => True
  | (g, k) :: l => ExtIs P g k ∧ XAll P l
/- ranges -/
def aRange (P : Program) (h : Hp) (t : TypeId) (x : AV) : Option (AV × Hp) :=
  match (match P.underlying t, x with
    | some .string, .v (.c (.x (.string s))) => wBytes s.data.toList fun l => some (AO.si l 0)
    | some (.map _ _), .v (.c (.x (.map none))) => some (AO.it none 0 [] 0)
    | some (.map _ _), .v (.c (.m b)) => (match h.m.get b with | some (.m _ c) => some (AO.it (some b) c [] c) | _ => none)
    | _, _ => none : Option AO) with
  | some o => (match h.m.set 64 h.n o with | some m => wNat (h.n + 1) fun n => some (.v (.c (.p h.n 0)), ⟨m, n⟩) | none => none)
  | none => none
theorem aRange_eq (hR : Rel w0 i h.m.get h.n w) {t : TypeId} {x y : AV} {u : Value} {h' : Hp} (hx : AR i x u) (ha : aRange P h t x = some (y, h')) : Ran P w0 (do pure (Next.value (← Instr.range t u))) i w y h' := by
  unfold aRange at ha
  split at ha
  · rename_i o ho
    split at ha
    · rename_i m hm
      simp at ha
      obtain ⟨rfl, rfl⟩ := ha
      have key : ∃ ob, (Instr.range t u).run P w = .ok (.pointer (some ⟨w.heap.size, 0, none⟩)) (w.alloc ob) ∧ ∀ j, Le i j → OR j 0 o ob := by
        split at ho
        · rename_i s hd
          simp at ho
          subst ho
          obtain ⟨rfl, _⟩ := hx
          exact ⟨.stringIter s 0, by simp [Instr.range, run_underlying hd], fun j _ => rfl⟩
        · rename_i a b hd
          simp at ho
          subst ho
          obtain ⟨rfl, _⟩ := hx
          exact ⟨.mapIter none 0 #[] 0, by simp [Instr.range, run_underlying hd], fun j _ => ⟨none, rfl, rfl⟩⟩
        · rename_i a b c hd
          split at ho
          · rename_i es cl hb
            simp at ho
            subst ho
            obtain ⟨q, N, hi, rfl⟩ := hx
            obtain ⟨ob, h1, ents, rfl, hl⟩ := hR.obj _ _ q N hb hi
            have hg : (getObj q).run P w = .ok (.map ents cl) w := by simp [getObj, Sem.run, h1]
            exact ⟨.mapIter (some q) cl #[] cl, by simp [Instr.range, run_underlying hd, hg], fun j hj => ⟨some q, rfl, q, N, hj _ _ hi, rfl⟩⟩
          · cases ho
        · cases ho
      obtain ⟨ob, hrun, hor⟩ := key
      refine Ran.val hrun (hR.le (w.heap.size, 0)) ?_ ⟨_, _, put_self _ _ _, rfl⟩
      dsimp only
      rw [up_get hm]
      exact hR.alloc 0 (hor _ (hR.le _))
    · cases ha
  · cases ha
theorem LR.all {α β : Type} {R : α → β → Prop} {p : α → Bool} {q : β → Bool} (hpq : ∀ a b, R a b → p a = q b) : ∀ {l : List α} {m : List β}, LR R l m → l.all p = m.all q
  | [], [], _ => rfl
  | a :: l, b :: m, ⟨h1, h2⟩ => by rw [List.all_cons, List.all_cons, hpq a b h1, LR.all hpq h2]
abbrev Ent := Value × V1 × Nat
def cands (es : List Ent) (since : Nat) (seen : List Nat) : List (Option Ent) :=
  let left := es.filter fun e => !seen.contains e.2.2
  let old := left.filter fun e => decide (e.2.2 < since)
  let new := left.filter fun e => decide (e.2.2 ≥ since)
  (if old.isEmpty then [none] else []) ++ (old ++ new).map some
def OptR (i : Inj) : Option Ent → Option MapEntry → Prop
  | none, none => True
  | some x, some e => ER i x e
  | _, _ => False
theorem LR.filter {α β : Type} {R : α → β → Prop} {p : α → Bool} {q : β → Bool} (hpq : ∀ a b, R a b → p a = q b) : ∀ {l : List α} {m : List β}, LR R l m → LR R (l.filter p) (m.filter q)
  | [], [], _ => trivial
  | a :: l, b :: m, ⟨h1, h2⟩ => by
    have := LR.filter hpq h2
    rw [List.filter_cons, List.filter_cons, hpq a b h1]
    split
    · exact ⟨h1, this⟩
    · exact this
theorem LR.map' {α β α' β' : Type} {R : α → β → Prop} {S : α' → β' → Prop} {f : α → α'} {g : β → β'} (hfg : ∀ a b, R a b → S (f a) (g b)) : ∀ {l : List α} {m : List β}, LR R l m → LR S (l.map f) (m.map g)
  | [], [], _ => trivial
  | _ :: _, _ :: _, ⟨h1, h2⟩ => ⟨hfg _ _ h1, LR.map' hfg h2⟩
def candsC (es : Array MapEntry) (since : Nat) (seen : Array Nat) : Array (Option MapEntry) :=
  let left := es.filter fun e => !seen.contains e.born
  let old := left.filter (·.born < since)
  let new := left.filter (·.born ≥ since)
  (if old.isEmpty then #[none] else #[]) ++ (old ++ new).map some
theorem isEmpty_gen {α β : Type} {R : α → β → Prop} {l : List α} {m : Array β} (hl : LR R l m.toList) : m.isEmpty = l.isEmpty := by
  obtain ⟨m⟩ := m
  cases l with
  | nil => cases m with
    | nil => rfl
    | cons _ _ => exact hl.elim
  | cons _ _ => cases m with
    | nil => exact hl.elim
    | cons _ _ => rfl
theorem cands_eq {es : List Ent} {ents : Array MapEntry} (hl : LR (ER i) es ents.toList) (since : Nat) (seen : List Nat) : LR (OptR i) (cands es since seen) (candsC ents since seen.toArray).toList := by
  have h1 := LR.filter (p := fun e : Ent => !seen.contains e.2.2) (q := fun e : MapEntry => !seen.toArray.contains e.born) (fun a b hab => by simp [hab.2.2]) hl
  have h2 := LR.filter (p := fun e : Ent => decide (e.2.2 < since)) (q := fun e : MapEntry => decide (e.born < since)) (fun a b hab => by rw [hab.2.2]) h1
  have h3 := LR.filter (p := fun e : Ent => decide (e.2.2 ≥ since)) (q := fun e : MapEntry => decide (e.born ≥ since)) (fun a b hab => by rw [hab.2.2]) h1
  have h4 := (h2.app h3).map' (S := OptR i) (f := some) (g := some) (fun a b hab => hab)
  simp only [cands, candsC, Array.toList_append, Array.toList_map, Array.toList_filter]
  refine LR.app ?_ h4
  have h2' : LR (ER i) (List.filter (fun e : Ent => decide (e.2.2 < since)) (List.filter (fun e : Ent => !seen.contains e.2.2) es)) ((ents.filter fun e => !seen.toArray.contains e.born).filter (·.born < since)).toList := by simpa using h2
  rw [isEmpty_gen h2']
  by_cases he : (List.filter (fun e : Ent => decide (e.2.2 < since)) (List.filter (fun e : Ent => !seen.contains e.2.2) es)).isEmpty = true
  · rw [if_pos he, if_pos he]; exact ⟨trivial, trivial⟩
  · rw [if_neg he, if_neg he]; trivial
theorem run_choose_next (n : Nat) (hn : 0 < n) : ∃ k w', k < n ∧ (w' = w ∨ w' = w.drew) ∧ (choose (.mapNext n)).run P w = .ok k w' := by
  by_cases h1 : n ≤ 1
  · refine ⟨0, w, hn, .inl rfl, ?_⟩
    show (if (Question.mapNext n).forced = true then _ else _ : Result Nat) = _
    rw [if_pos (by simp [Question.forced, h1])]
    rfl
  · refine ⟨(Question.mapNext n).cut (w.tape w.drawn (.mapNext n)), w.drew, Nat.mod_lt _ hn, .inr rfl, ?_⟩
    show (if (Question.mapNext n).forced = true then _ else _ : Result Nat) = _
    rw [if_neg (by simp [Question.forced, h1])]
    rfl
def keyV (v : Value) : Option V1 :=
  match v with
  | .agg cs => wCels cs.toList fun l => some (.a l)
  | .tuple _ => none
  | v => some (.c (.x v))
theorem keyV_eq {v : Value} {x : V1} (hk : keyV v = some x) (i : Inj) : V1R i x v := by
  cases v with
  | agg a =>
    obtain ⟨cs, h1, h2⟩ := wCels_eq (k := fun l => some (V1.a l)) hk
    simp at h1
    subst h1
    exact ⟨a, rfl, h2 i⟩
  | tuple a => simp [keyV] at hk
  | _ => simp [keyV] at hk; subst hk; exact ⟨rfl, rfl⟩
def falseT : AV := .t [.c (.x (.bool false))]
theorem falseT_eq (i : Inj) : AR i falseT (.tuple #[.bool false]) := ⟨_, rfl, ⟨rfl, rfl⟩, trivial⟩
def eachC (h : Hp) (r : Nat) (m : Nat) (since : Nat) (seen : List Nat) (clock : Nat) : List (Option Ent) → Option (List (AV × Hp))
  | [] => some []
  | none :: l => (match eachC h r m since seen clock l with | some L => some ((falseT, h) :: L) | none => none)
  | some e :: l => (match keyV e.1, setH h r (.it (some m) since (seen ++ [e.2.2]) clock), eachC h r m since seen clock l with
    | some k, some h', some L => some ((.t [.c (.x (.bool true)), k, e.2.1], h') :: L)
    | _, _, _ => none)
theorem eachC_eq {r m since clock : Nat} {seen : List Nat} : ∀ (l : List (Option Ent)) (L : List (AV × Hp)), eachC h r m since seen clock l = some L → ∀ c ∈ l, (c = none ∧ (falseT, h) ∈ L) ∨ ∃ e k h', c = some e ∧ keyV e.1 = some k ∧ setH h r (.it (some m) since (seen ++ [e.2.2]) clock) = some h' ∧ (AV.t [.c (.x (.bool true)), k, e.2.1], h') ∈ L
  | [], L, _, c, hc => by cases hc
  | none :: l, L, hh, c, hc => by
    simp only [eachC] at hh
    split at hh
    · rename_i M hM
      simp at hh
      subst hh
      rcases List.mem_cons.1 hc with rfl | hc
      · exact .inl ⟨rfl, List.mem_cons_self ..⟩
      · rcases eachC_eq l M hM c hc with ⟨e1, e2⟩ | ⟨e, k, h', e1, e2, e3, e4⟩
        · exact .inl ⟨e1, List.mem_cons_of_mem _ e2⟩
        · exact .inr ⟨e, k, h', e1, e2, e3, List.mem_cons_of_mem _ e4⟩
    · cases hh
  | some e :: l, L, hh, c, hc => by
    simp only [eachC] at hh
    split at hh
    · rename_i k h' M hk hs hM
      simp at hh
      subst hh
      rcases List.mem_cons.1 hc with rfl | hc
      · exact .inr ⟨e, k, h', rfl, hk, hs, List.mem_cons_self ..⟩
      · rcases eachC_eq l M hM c hc with ⟨e1, e2⟩ | ⟨e', k', h'', e1, e2, e3, e4⟩
        · exact .inl ⟨e1, List.mem_cons_of_mem _ e2⟩
        · exact .inr ⟨e', k', h'', e1, e2, e3, List.mem_cons_of_mem _ e4⟩
    · cases hh
def aNext (h : Hp) (x : AV) (isStr : Bool) : Option (List (AV × Hp)) :=
  match x with
  | .v (.c (.p r 0)) => (match h.m.get r, isStr with
    | some (.si l pos), true => cond (Nat.blt pos l.length)
        (wNat (Utf8.decode ⟨l.toArray⟩ pos).1 fun c => wNat (pos + (Utf8.decode ⟨l.toArray⟩ pos).2) fun p => (match setH h r (.si l p) with
          | some h' => some [(.t [.c (.x (.bool true)), .c (.x (.int .i64 (.ofNat pos))), .c (.x (.int .i32 (.ofNat c)))], h')]
          | none => none))
        (some [(falseT, h)])
    | some (.it none _ _ _), false => some [(falseT, h)]
    | some (.it (some m) since seen last), false => (match h.m.get m with
      | some (.m es clock) => gd (!(!seen.isEmpty && !es.isEmpty && es.all fun e => decide (e.2.2 ≥ last))) (eachC h r m since seen clock (cands es since seen))
      | _ => none)
    | _, _ => none)
  | _ => none
theorem aNext_eq (hR : Rel w0 i h.m.get h.n w) {x : AV} {u : Value} {is : Bool} {ty : TypeId} {L : List (AV × Hp)} (hx : AR i x u) (ha : aNext h x is = some L) :
    ∃ v w', (Instr.next u is ty).run P w = .ok v w' ∧ ∃ r ∈ L, Rel w0 i r.2.m.get r.2.n w' ∧ AR i r.1 v := by
  unfold aNext at ha
  split at ha
  · rename_i r
    obtain ⟨k, N, hi, rfl⟩ := hx
    split at ha
    · rename_i l pos hb
      obtain ⟨ob, h1, h2⟩ := hR.obj _ _ k N hb hi
      have h2 : ob = .stringIter ⟨l.toArray⟩ pos := h2
      subst h2
      have hg : (getObj k).run P w = .ok (.stringIter ⟨l.toArray⟩ pos) w := by simp [getObj, Sem.run, h1]
      have hsz : (⟨l.toArray⟩ : ByteArray).size = l.length := by simp [ByteArray.size]
      cases hlt : Nat.blt pos l.length with
      | true =>
        have hlt' := blt_of hlt
        rw [hlt] at ha
        simp only [cond_true, wNat_eq] at ha
        split at ha
        · rename_i h' hs
          simp at ha
          subst ha
          obtain ⟨q1, q2⟩ := setH_eq hs
          have hset := run_setObj' (P := P) (w := w) (k := k) (o := .stringIter ⟨l.toArray⟩ pos) (ob := .stringIter ⟨l.toArray⟩ (pos + (Utf8.decode ⟨l.toArray⟩ pos).2)) h1 (by simp)
          refine ⟨.tuple #[.bool true, goInt pos, .int .i32 ((Utf8.decode ⟨l.toArray⟩ pos).1 : Nat)], { w with heap := w.heap.setIfInBounds k (.stringIter ⟨l.toArray⟩ (pos + (Utf8.decode ⟨l.toArray⟩ pos).2)) }, ?_, _, List.mem_singleton.2 rfl, ?_, ?_⟩
          · simp only [Instr.next, Sem.run_bind, hg, Result.andThen_ok, hsz, if_pos hlt', hset, Sem.run_pure]
          · rw [q1, q2]
            exact hR.setObj hb (by simp) hi (o' := .si l (pos + (Utf8.decode ⟨l.toArray⟩ pos).2)) rfl
          · exact ⟨_, rfl, ⟨rfl, rfl⟩, ⟨rfl, rfl⟩, ⟨rfl, rfl⟩, trivial⟩
        · cases ha
      | false =>
        have hlt' : ¬ pos < l.length := fun hh => by have : Nat.blt pos l.length = true := by simpa [Nat.blt_eq] using hh
                                                     rw [this] at hlt; cases hlt
        rw [hlt] at ha
        simp at ha
        subst ha
        exact ⟨.tuple #[.bool false], w, by simp only [Instr.next, Sem.run_bind, hg, Result.andThen_ok, hsz, if_neg hlt', Sem.run_pure], _, List.mem_singleton.2 rfl, hR, falseT_eq i⟩
    · rename_i a b c hb
      simp at ha
      subst ha
      obtain ⟨ob, h1, k', rfl, h3⟩ := hR.obj _ _ k N hb hi
      dsimp only at h3
      subst h3
      have hg : (getObj k).run P w = .ok (.mapIter none a b.toArray c) w := by simp [getObj, Sem.run, h1]
      exact ⟨.tuple #[.bool false], w, by simp only [Instr.next, Sem.run_bind, hg, Result.andThen_ok, Sem.run_pure], _, List.mem_singleton.2 rfl, hR, falseT_eq i⟩
    · rename_i m since seen last hb
      split at ha
      · rename_i es clock hm
        rw [gd_eq] at ha
        obtain ⟨hok, ha⟩ := ha
        obtain ⟨ob, h1, k', rfl, q, N', hi', rfl⟩ := hR.obj _ _ k N hb hi
        obtain ⟨ob2, h4, ents, rfl, hl⟩ := hR.obj _ _ q N' hm hi'
        have hg : (getObj k).run P w = .ok (.mapIter (some q) since seen.toArray last) w := by simp [getObj, Sem.run, h1]
        have hg2 : (getObj q).run P w = .ok (.map ents clock) w := by simp [getObj, Sem.run, h4]
        have hok' : ¬ ((!seen.toArray.isEmpty && !ents.isEmpty && ents.all fun x => decide (x.born ≥ last)) = true) := by
          have e1 : (ents.all fun x => decide (x.born ≥ last)) = es.all fun e => decide (e.2.2 ≥ last) := by
            rw [← Array.all_toList]
            exact (LR.all (fun a b hab => by rw [hab.2.2]) hl).symm
          rw [e1, isEmpty_gen hl]
          rw [show seen.toArray.isEmpty = seen.isEmpty from by cases seen <;> rfl]
          intro hh
          rw [hh] at hok
          cases hok
        have hc := cands_eq hl since seen
        have hpos : 0 < (candsC ents since seen.toArray).size := by
          unfold candsC
          simp only [Array.size_append]
          split
          · simp; omega
          · rename_i hne
            simp only [Array.isEmpty, decide_eq_true_eq] at hne
            simp only [Array.size_map, Array.size_append]
            omega
        obtain ⟨j, w1, hj, hw1, hch⟩ := run_choose_next (P := P) (w := w) (candsC ents since seen.toArray).size hpos
        have hR1 : Rel w0 i h.m.get h.n w1 := by rcases hw1 with rfl | rfl; exact hR; exact hR.drew
        have h11 : w1.heap[k]? = some (.mapIter (some q) since seen.toArray last) := by rcases hw1 with rfl | rfl <;> exact h1
        have hjl : j < (cands es since seen).length := by rw [hc.len]; simpa using hj
        obtain ⟨c', h5, h6⟩ := hc.get j _ (List.getElem?_eq_getElem hjl)
        have h5' : (candsC ents since seen.toArray)[j]? = some c' := by simpa using h5
        have hall := eachC_eq _ _ ha _ (List.getElem_mem hjl)
        have pre : ∀ (R : Sem Value), (match c' with | some e => (do setObj k (.mapIter (some q) since (seen.toArray.push e.born) clock); pure (.tuple #[.bool true, e.key, e.val]) : Sem Value) | none => pure (.tuple #[.bool false])) = R → (Instr.next (.pointer (some ⟨k, 0, none⟩)) false ty).run P w = R.run P w1 := by
          intro R hR'
          simp only [Instr.next, Sem.run_bind, hg, Result.andThen_ok, hg2]
          rw [if_neg hok']
          simp only [Sem.run_bind]
          rw [show ((if (Array.filter (fun x => decide (x.born < since)) (Array.filter (fun e => !seen.toArray.contains e.born) ents)).isEmpty = true then #[none] else #[]) ++ Array.map some (Array.filter (fun x => decide (x.born < since)) (Array.filter (fun e => !seen.toArray.contains e.born) ents) ++ Array.filter (fun x => decide (x.born ≥ since)) (Array.filter (fun e => !seen.toArray.contains e.born) ents))) = candsC ents since seen.toArray from rfl]
          rw [hch]
          simp only [Result.andThen_ok, h5']
          subst hR'
          cases c' <;> rfl
        rcases hall with ⟨e1, e2⟩ | ⟨e, kv, h', e1, e2, e3, e4⟩
        · rw [e1] at h6
          cases c' with
          | none => exact ⟨.tuple #[.bool false], w1, by rw [pre _ rfl]; rfl, _, e2, hR1, falseT_eq i⟩
          | some _ => exact h6.elim
        · rw [e1] at h6
          cases c' with
          | none => exact h6.elim
          | some ec =>
            obtain ⟨q1, q2⟩ := setH_eq e3
            have hset := run_setObj' (P := P) (w := w1) (k := k) (ob := .mapIter (some q) since (seen.toArray.push ec.born) clock) h11 (by simp)
            refine ⟨.tuple #[.bool true, ec.key, ec.val], { w1 with heap := w1.heap.setIfInBounds k (.mapIter (some q) since (seen.toArray.push ec.born) clock) }, by rw [pre _ rfl]; simp only [Sem.run_bind, hset, Result.andThen_ok, Sem.run_pure], _, e4, ?_, ?_⟩
            · rw [q1, q2]
              exact hR1.setObj hb (by simp) hi (o' := .it (some m) since (seen ++ [e.2.2]) clock) ⟨some q, by rw [h6.2.2]; simp, q, N', hi', rfl⟩
            · exact ⟨_, rfl, ⟨rfl, rfl⟩, by rw [h6.1]; exact keyV_eq e2 i, h6.2.1, trivial⟩
      · cases ha
    · cases ha
  · cases ha
end
end R
end Go.Proofs.YtcccdlmngddalaaGreat
