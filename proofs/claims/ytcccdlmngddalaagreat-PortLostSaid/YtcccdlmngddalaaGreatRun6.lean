/- A run's operations, one by one: maps. -/
import Derived.Test.YtcccdlmngddalaaGreatRun5
set_option linter.unusedVariables false
set_option linter.unusedSimpArgs false
set_option linter.unusedSectionVars false
namespace Go.Proofs.YtcccdlmngddalaaGreat
open Go.RowKit
namespace R
variable [vl : Val]
section
variable {P : Program} {w0 : Base} {i : Inj} {h : Hp} {w : World}
theorem pv_bind {α β : Type} {s : Sem α} {f : α → Sem β} {b : β} : pv P (s >>= f) = some b → ∃ a, pv P s = some a ∧ pv P (f a) = some b := by
  show pv P (s.bind f) = some b → _
  induction s with
  | pure a => exact fun hh => ⟨a, rfl, hh⟩
  | program k ih => exact fun hh => ih P hh
  | mark m k ih => exact fun hh => ih hh
  | _ => intro hh; simp [Sem.bind, pv] at hh
theorem pv_underlying {t : TypeId} {d : TypeDesc} (hh : pv P (underlying t) = some d) : P.underlying t = some d := by
  obtain ⟨p, h1, h2⟩ := pv_bind hh
  simp [program, pv] at h1
  subst h1
  split at h2
  · rename_i d' hd; simp [pure, pv] at h2; rw [hd, h2]
  · simp [stuck, pv] at h2
def sk (es : List (Value × V1 × Nat)) : List MapEntry := es.map fun x => { key := x.1, val := undef, born := x.2.2 }
def blank (r : Option (Nat × Value)) : Option (Nat × Value) := match r with | some (j, _) => some (j, undef) | none => none
theorem findNow_sk (d : TypeDesc) (k : Value) : ∀ (es : List (Value × V1 × Nat)) (ents : List MapEntry) (n : Nat) (r : Option (Nat × Value)), LR (ER i) es ents → Instr.findNow d k (sk es) n = some r →
    (r = none ∧ Instr.findNow d k ents n = some none) ∨ ∃ j e, r = some (n + j, undef) ∧ ents[j]? = some e ∧ Instr.findNow d k ents n = some (some (n + j, e.val))
  | [], [], n, r, _, hf => by simp [sk, Instr.findNow] at hf; subst hf; exact .inl ⟨rfl, rfl⟩
  | x :: es, e :: ents, n, r, ⟨h1, h2⟩, hf => by
    have ih := findNow_sk d k es ents (n + 1) r h2
    simp only [sk, List.map_cons, Instr.findNow] at hf ih
    rw [← h1.1] at hf
    simp only [Instr.findNow]
    cases hs : Instr.sameNow d k e.key with
    | none => simp [hs] at hf
    | some b =>
      cases b with
      | true => simp [hs] at hf; subst hf; exact .inr ⟨0, e, rfl, by simp, rfl⟩
      | false =>
        simp only [hs] at hf
        rcases ih hf with ⟨rfl, h3⟩ | ⟨j, e', rfl, h3, h4⟩
        · exact .inl ⟨rfl, h3⟩
        · exact .inr ⟨j + 1, e', by rw [Nat.add_assoc, Nat.add_comm 1 j], by simpa using h3, by rw [show n + (j + 1) = n + 1 + j by omega]; exact h4⟩
  | [], _ :: _, _, _, h, _ => h.elim
  | _ :: _, [], _, _, h, _ => h.elim
theorem findNow_no (d : TypeDesc) (k : Value) : ∀ (es : List (Value × V1 × Nat)) (ents : List MapEntry) (n : Nat), LR (ER i) es ents → Instr.findNow d k (sk es) n = none → Instr.findNow d k ents n = none
  | [], [], n, _, hf => by simp [sk, Instr.findNow] at hf
  | x :: es, e :: ents, n, ⟨h1, h2⟩, hf => by
    have ih := findNow_no d k es ents (n + 1) h2
    simp only [sk, List.map_cons, Instr.findNow] at hf ih
    rw [← h1.1] at hf
    simp only [Instr.findNow]
    cases hs : Instr.sameNow d k e.key with
    | none => rfl
    | some b =>
      cases b with
      | true => simp [hs] at hf
      | false => simp only [hs] at hf; exact ih hf
  | [], _ :: _, _, h, _ => h.elim
  | _ :: _, [], _, h, _ => h.elim
theorem findAsking_sk (kt : TypeId) (k : Value) : ∀ (es : List (Value × V1 × Nat)) (ents : List MapEntry) (n : Nat) (r : Option (Nat × Value)), LR (ER i) es ents → pv P (Instr.findAsking kt k (sk es) n) = some r →
    (r = none ∧ (Instr.findAsking kt k ents n).run P w = .ok none w) ∨ ∃ j e, r = some (n + j, undef) ∧ ents[j]? = some e ∧ (Instr.findAsking kt k ents n).run P w = .ok (some (n + j, e.val)) w
  | [], [], n, r, _, hf => by simp [sk, Instr.findAsking, pure, pv] at hf; subst hf; exact .inl ⟨rfl, rfl⟩
  | x :: es, e :: ents, n, r, ⟨h1, h2⟩, hf => by
    have ih := findAsking_sk kt k es ents (n + 1) r h2
    simp only [sk, List.map_cons, Instr.findAsking] at hf ih
    rw [← h1.1] at hf
    obtain ⟨b, h3, h4⟩ := pv_bind hf
    have h3' := pv_run w h3
    simp only [Instr.findAsking, Sem.run_bind, h3', Result.andThen_ok]
    cases b with
    | true => simp [pure, pv] at h4; subst h4; exact .inr ⟨0, e, rfl, by simp, rfl⟩
    | false =>
      simp only [Bool.false_eq_true, if_false] at h4 ⊢
      rcases ih h4 with ⟨rfl, h5⟩ | ⟨j, e', rfl, h5, h6⟩
      · exact .inl ⟨rfl, h5⟩
      · exact .inr ⟨j + 1, e', by rw [Nat.add_assoc, Nat.add_comm 1 j], by simpa using h5, by rw [show n + (j + 1) = n + 1 + j by omega]; exact h6⟩
  | [], _ :: _, _, _, h, _ => h.elim
  | _ :: _, [], _, _, h, _ => h.elim
theorem findKey_sk {kt : TypeId} {k : Value} {es : List (Value × V1 × Nat)} {ents : List MapEntry} {r : Option (Nat × Value)} (hl : LR (ER i) es ents) (hf : pv P (Instr.findKey kt k (sk es)) = some r) :
    (r = none ∧ (Instr.findKey kt k ents).run P w = .ok none w) ∨ ∃ j e, r = some (j, undef) ∧ ents[j]? = some e ∧ (Instr.findKey kt k ents).run P w = .ok (some (j, e.val)) w := by
  obtain ⟨d, h1, h2⟩ := pv_bind hf
  have hd := run_underlying (pv_underlying h1) w
  simp only [Instr.findKey, Sem.run_bind, hd, Result.andThen_ok]
  cases hn : Instr.findNow d k (sk es) 0 with
  | none =>
    rw [hn] at h2
    rw [findNow_no d k es ents 0 hl hn]
    have := findAsking_sk (P := P) (w := w) kt k es ents 0 r hl h2
    simpa only [Nat.zero_add] using this
  | some r' =>
    rw [hn] at h2
    simp [pure, pv] at h2
    subst h2
    rcases findNow_sk d k es ents 0 r' hl hn with ⟨rfl, h3⟩ | ⟨j, e, rfl, h3, h4⟩
    · exact .inl ⟨rfl, by rw [h3]; rfl⟩
    · exact .inr ⟨j, e, by simp, h3, by rw [h4]; simp⟩
def entsOf (h : Hp) : AV → Option (List (Value × V1 × Nat) × Nat)
  | .v (.c (.m b)) => (match h.m.get b with | some (.m es c) => some (es, c) | _ => none)
  | .v (.c (.x (.map none))) => some ([], 0)
  | _ => none
def aLookup (P : Program) (h : Hp) (t : TypeId) (x k : AV) (ok : Bool) : Option AV :=
  match P.underlying t, entsOf h x, plain k with
  | some (.map kt et), some (es, _), some kv => (match pv P (Instr.checkKey es.isEmpty 10000 kt kv), pv P (Instr.findKey kt kv (sk es)) with
    | some _, some (some (j, _)) => (match es[j]? with
      | some e => cond ok (some (.t [e.2.1, .c (.x (.bool true))])) (some (.v e.2.1))
      | none => none)
    | some _, some none => (match zeroOf P et with
      | some z => wAV z fun y => (match y with | .v y => cond ok (some (.t [y, .c (.x (.bool false))])) (some (.v y)) | _ => none)
      | none => none)
    | _, _ => none)
  | _, _, _ => none
theorem entsOf_eq (hR : Rel w0 i h.m.get h.n w) {x : AV} {u : Value} {es : List (Value × V1 × Nat)} {c : Nat} (hx : AR i x u) (he : entsOf h x = some (es, c)) :
    (u = .map none ∧ es = []) ∨ ∃ k ents, u = .map (some k) ∧ (getObj k).run P w = .ok (.map ents c) w ∧ LR (ER i) es ents.toList := by
  unfold entsOf at he
  split at he
  · rename_i b
    obtain ⟨k, N, hi, rfl⟩ := hx
    split at he
    · rename_i es' c' hb
      simp at he
      obtain ⟨rfl, rfl⟩ := he
      obtain ⟨ob, h1, ents, rfl, h2⟩ := hR.obj b _ k N hb hi
      exact .inr ⟨k, ents, rfl, by simp [getObj, Sem.run, h1], h2⟩
    · cases he
  · simp at he
    obtain ⟨rfl, rfl⟩ := he
    exact .inl ⟨hx.1, rfl⟩
  · cases he
theorem isEmpty_eq {es : List (Value × V1 × Nat)} {ents : Array MapEntry} (hl : LR (ER i) es ents.toList) : ents.isEmpty = es.isEmpty := by
  obtain ⟨l⟩ := ents
  cases es with
  | nil => cases l with
    | nil => rfl
    | cons _ _ => exact hl.elim
  | cons _ _ => cases l with
    | nil => exact hl.elim
    | cons _ _ => rfl
theorem aLookup_eq (hR : Rel w0 i h.m.get h.n w) {t : TypeId} {x k y : AV} {ok : Bool} {u kv : Value} (hx : AR i x u) (hk : AR i k kv) (ha : aLookup P h t x k ok = some y) : ∃ v, (Instr.lookup t u kv ok).run P w = .ok v w ∧ AR i y v := by
  unfold aLookup at ha
  split at ha
  · rename_i kt et es c kv' hd he hpk
    obtain rfl := plain_eq hpk hk
    have core : ∃ ents : Array MapEntry, LR (ER i) es ents.toList ∧ (Instr.lookup t u kv ok).run P w = ((Instr.checkKey es.isEmpty 10000 kt kv).run P w).andThen fun _ w => ((Instr.findKey kt kv ents.toList).run P w).andThen fun r w =>
        (match r with | some (_, v) => .ok (if ok then .tuple #[v, .bool true] else v) w | none => ((zeroValue et).run P w).andThen fun z w => .ok (if ok then .tuple #[z, .bool false] else z) w) := by
      rcases entsOf_eq (P := P) hR hx he with ⟨rfl, rfl⟩ | ⟨q, ents, rfl, hg, hl⟩
      · refine ⟨#[], trivial, ?_⟩
        simp only [Instr.lookup, Sem.run_bind, run_underlying hd, Result.andThen_ok, Sem.run_pure]
        congr 1; funext _ w; congr 1; funext r w
        cases r with
        | none => simp only [Sem.run_bind, Sem.run_pure]; congr 1
        | some p => rfl
      · refine ⟨ents, hl, ?_⟩
        simp only [Instr.lookup, Sem.run_bind, run_underlying hd, Result.andThen_ok, Sem.run_pure, hg, isEmpty_eq hl]
        congr 1; funext _ w; congr 1; funext r w
        cases r with
        | none => simp only [Sem.run_bind, Sem.run_pure]; congr 1
        | some p => rfl
    obtain ⟨ents, hl, hrun⟩ := core
    split at ha
    · rename_i j vv hc hf
      split at ha
      · rename_i e hej
        rw [hrun, pv_run w hc]
        rcases findKey_sk (w := w) hl hf with ⟨h1, _⟩ | ⟨j', e', h1, h2, h3⟩
        · cases h1
        · simp at h1
          obtain ⟨rfl, rfl⟩ := h1
          simp only [Result.andThen_ok, h3]
          obtain ⟨e2, h4, h5⟩ := hl.get _ _ hej
          rw [h2] at h4
          simp at h4
          subst h4
          cases ok with
          | true => simp at ha; subst ha; exact ⟨_, rfl, _, rfl, h5.2.1, ⟨rfl, rfl⟩, trivial⟩
          | false => simp at ha; subst ha; exact ⟨_, rfl, h5.2.1⟩
      · cases ha
    · rename_i hc hf
      split at ha
      · rename_i z hz
        obtain ⟨zx, ha, hzx⟩ := wAV_eq ha
        rw [hrun, pv_run w hc]
        rcases findKey_sk (w := w) hl hf with ⟨_, h3⟩ | ⟨j', e', h1, _⟩
        · simp only [Result.andThen_ok, h3, zeroOf_run hz]
          split at ha
          · rename_i zy
            cases ok with
            | true => simp at ha; subst ha; exact ⟨_, rfl, _, rfl, hzx i, ⟨rfl, rfl⟩, trivial⟩
            | false => simp at ha; subst ha; exact ⟨_, rfl, hzx i⟩
          · cases ha
        · cases h1
      · cases ha
    · cases ha
  · cases ha
def setH (h : Hp) (b : Nat) (o : AO) : Option Hp := match h.m.set 64 b o with | some m => some ⟨m, h.n⟩ | none => none
theorem setH_eq {b : Nat} {o : AO} {h' : Hp} (hs : setH h b o = some h') : h'.m.get = up h.m.get b o ∧ h'.n = h.n := by
  unfold setH at hs
  split at hs
  · rename_i m hm; simp at hs; subst hs; exact ⟨up_get hm, rfl⟩
  · cases hs
theorem run_setObj' {k : Nat} {o ob : Obj} (h1 : w.heap[k]? = some o) (h2 : ∀ c e z, o ≠ .cells c e z) : (setObj k ob).run P w = .ok () { w with heap := w.heap.setIfInBounds k ob } := by
  cases o <;> first | exact absurd rfl (h2 _ _ _) | simp [setObj, Sem.run, h1]
def aUpdate (P : Program) (h : Hp) (t : TypeId) (x k y : AV) : Option Hp :=
  match P.underlying t, x, plain k, y with
  | some (.map kt _), .v (.c (.m b)), some kv, .v yv => (match h.m.get b with
    | some (.m es c) => (match pv P (Instr.checkKey false 10000 kt kv), pv P (Instr.findKey kt kv (sk es)) with
      | some _, some (some (j, _)) => (match pv P (Instr.keyThatStays (((es[j]?).map (·.1)).getD kv) kv) with
        | some kv' => wVal kv' fun kv' => wList (es.modify j fun e => (kv', yv, e.2.2)) fun es' => setH h b (.m es' c)
        | none => none)
      | some _, some none => wVal kv fun kv => wNat (c + 1) fun c' => wList (es ++ [(kv, yv, c)]) fun es' => setH h b (.m es' c')
      | _, _ => none)
    | _ => none)
  | _, _, _, _ => none
theorem LR.modify {α β : Type} {R : α → β → Prop} {f : α → α} {g : β → β} (hfg : ∀ a b, R a b → R (f a) (g b)) : ∀ {l : List α} {m : List β}, LR R l m → ∀ j, LR R (l.modify j f) (m.modify j g)
  | [], [], _, j => by cases j <;> trivial
  | _ :: _, _ :: _, ⟨h1, h2⟩, 0 => ⟨hfg _ _ h1, h2⟩
  | _ :: _, _ :: _, ⟨h1, h2⟩, j + 1 => ⟨h1, LR.modify hfg h2 j⟩
theorem aUpdate_eq (hR : Rel w0 i h.m.get h.n w) {t : TypeId} {x k y : AV} {u kv v : Value} {h' : Hp} (hx : AR i x u) (hk : AR i k kv) (hy : AR i y v) (ha : aUpdate P h t x k y = some h') :
    ∃ w', (Instr.mapUpdate t u kv v).run P w = .ok () w' ∧ Rel w0 i h'.m.get h'.n w' := by
  unfold aUpdate at ha
  split at ha
  · rename_i kt et b kv' yv hd hpk
    obtain rfl := plain_eq hpk hk
    obtain ⟨q, N, hi, rfl⟩ := hx
    split at ha
    · rename_i es c hb
      obtain ⟨ob, h1, ents, rfl, hl⟩ := hR.obj b _ q N hb hi
      have hg : (getObj q).run P w = .ok (.map ents c) w := by simp [getObj, Sem.run, h1]
      split at ha
      · rename_i j vv hc hf
        split at ha
        · rename_i kv2 hks
          simp only [wVal_eq, wList_eq] at ha
          obtain ⟨q1, q2⟩ := setH_eq ha
          rcases findKey_sk (w := w) hl hf with ⟨e1, _⟩ | ⟨j', e', e1, h2, h3⟩
          · cases e1
          · simp at e1
            obtain ⟨rfl, rfl⟩ := e1
            have hkey : ((ents[j]?).map (·.key)).getD kv = ((es[j]?).map (·.1)).getD kv := by
              have h2' : ents[j]? = some e' := by simpa using h2
              have hjl : j < es.length := by have := hl.len; have := (Array.getElem?_eq_some_iff.1 h2').1; simp at *; omega
              obtain ⟨e2, h4, h5⟩ := hl.get j _ (List.getElem?_eq_getElem hjl)
              rw [h2] at h4
              simp at h4
              subst h4
              rw [h2', List.getElem?_eq_getElem hjl]
              exact h5.1
            have hlr : LR (ER i) (es.modify j fun e => (kv2, yv, e.2.2)) (ents.modify j fun e => { e with key := kv2, val := v }).toList := by
              rw [Array.toList_modify]
              exact hl.modify (fun a b hab => ⟨rfl, hy, hab.2.2⟩) j
            refine ⟨_, ?_, by rw [q1, q2]; exact hR.setObj hb (by simp) hi (ob := .map (ents.modify j fun e => { e with key := kv2, val := v }) c) ⟨_, rfl, hlr⟩⟩
            · simp only [Instr.mapUpdate, Sem.run_bind, run_underlying hd, Result.andThen_ok, hg, pv_run w hc, h3, hkey, pv_run w hks]
              exact run_setObj' h1 (by simp)
        · cases ha
      · rename_i hc hf
        simp only [wVal_eq, wList_eq, wNat_eq] at ha
        obtain ⟨q1, q2⟩ := setH_eq ha
        rcases findKey_sk (w := w) hl hf with ⟨_, h3⟩ | ⟨j', e', e1, _⟩
        · have hlr : LR (ER i) (es ++ [(kv, yv, c)]) (ents.push { key := kv, val := v, born := c }).toList := by
            rw [Array.toList_push]
            exact hl.app ⟨⟨rfl, hy, rfl⟩, trivial⟩
          refine ⟨_, ?_, by rw [q1, q2]; exact hR.setObj hb (by simp) hi (ob := .map (ents.push { key := kv, val := v, born := c }) (c + 1)) ⟨_, rfl, hlr⟩⟩
          · simp only [Instr.mapUpdate, Sem.run_bind, run_underlying hd, Result.andThen_ok, hg, pv_run w hc, h3]
            exact run_setObj' h1 (by simp)
        · cases e1
      · cases ha
    · cases ha
  · cases ha
/- an entry that is there, or is laid; and what is stored there -/
def aMapEntry (P : Program) (h : Hp) (t : TypeId) (x k : AV) : Option (AV × Hp) :=
  match P.underlying t, x, plain k with
  | some (.map kt et), .v (.c (.m b)), some kv => (match h.m.get b with
    | some (.m es c) => (match pv P (Instr.checkKey false 10000 kt kv), pv P (Instr.findKey kt kv (sk es)) with
      | some _, some (some (j, _)) => (match pv P (Instr.keyThatStays (((es[j]?).map (·.1)).getD kv) kv), es[j]? with
        | some kv', some e => wVal kv' fun kv' => wNat e.2.2 fun bo => wList (es.modify j fun e => (kv', e.2.1, e.2.2)) fun es' => (match setH h b (.m es' c) with
          | some h' => some (.t [e.2.1, .c (.x (.int .i64 (.ofNat bo)))], h')
          | none => none)
        | _, _ => none)
      | some _, some none => (match zeroOf P et with
        | some z => wAV z fun y => (match y with
          | .v y => wVal kv fun kv => wNat (c + 1) fun c' => wList (es ++ [(kv, y, c)]) fun es' => (match setH h b (.m es' c') with
            | some h' => some (.t [y, .c (.x (.int .i64 (.ofNat c)))], h')
            | none => none)
          | _ => none)
        | none => none)
      | _, _ => none)
    | _ => none)
  | _, _, _ => none
theorem aMapEntry_eq (hR : Rel w0 i h.m.get h.n w) {t : TypeId} {x k y : AV} {u kv : Value} {h' : Hp} (hx : AR i x u) (hk : AR i k kv) (ha : aMapEntry P h t x k = some (y, h')) :
    ∃ v w', (Instr.mapEntry t u kv).run P w = .ok v w' ∧ AR i y v ∧ Rel w0 i h'.m.get h'.n w' := by
  unfold aMapEntry at ha
  split at ha
  · rename_i kt et b kv' hd hpk
    obtain rfl := plain_eq hpk hk
    obtain ⟨q, N, hi, rfl⟩ := hx
    split at ha
    · rename_i es c hb
      obtain ⟨ob, h1, ents, rfl, hl⟩ := hR.obj b _ q N hb hi
      have hg : (getObj q).run P w = .ok (.map ents c) w := by simp [getObj, Sem.run, h1]
      split at ha
      · rename_i j vv hc hf
        split at ha
        · rename_i kv2 e0 hks hej
          simp only [wVal_eq, wList_eq, wNat_eq] at ha
          split at ha
          · rename_i h2' hset
            simp at ha
            obtain ⟨rfl, rfl⟩ := ha
            obtain ⟨q1, q2⟩ := setH_eq hset
            rcases findKey_sk (w := w) hl hf with ⟨e1, _⟩ | ⟨j', e', e1, h2, h3⟩
            · cases e1
            · simp at e1
              obtain ⟨rfl, rfl⟩ := e1
              obtain ⟨e2, h4, h5⟩ := hl.get j _ hej
              rw [h2] at h4
              simp at h4
              subst h4
              have h2a : ents[j]? = some e' := by simpa using h2
              have hkey : ((ents[j]?).map (·.key)).getD kv = ((es[j]?).map (·.1)).getD kv := by
                rw [h2a, hej]; exact h5.1
              have hborn : ((ents[j]?).map (·.born)).getD 0 = e0.2.2 := by
                rw [h2a]; exact h5.2.2
              have hlr : LR (ER i) (es.modify j fun e => (kv2, e.2.1, e.2.2)) (ents.modify j fun e => { e with key := kv2 }).toList := by
                rw [Array.toList_modify]
                exact hl.modify (fun a b hab => ⟨rfl, hab.2.1, hab.2.2⟩) j
              refine ⟨.tuple #[e'.val, .int .i64 (e0.2.2 : Nat)], _, ?_, ⟨_, rfl, h5.2.1, ⟨rfl, rfl⟩, trivial⟩, by rw [q1, q2]; exact hR.setObj hb (by simp) hi (ob := .map (ents.modify j fun e => { e with key := kv2 }) c) ⟨_, rfl, hlr⟩⟩
              simp only [Instr.mapEntry, Sem.run_bind, run_underlying hd, Result.andThen_ok, hg, pv_run w hc, h3, hkey, pv_run w hks, hborn]
              rw [run_setObj' h1 (by simp)]
              simp [goInt]
              rw [h2a]
              show (e'.born : Int) = _
              rw [h5.2.2]
          · cases ha
        · cases ha
      · rename_i hc hf
        split at ha
        · rename_i z hz
          obtain ⟨yy, ha, hy⟩ := wAV_eq ha
          split at ha
          · rename_i yv
            simp only [wVal_eq, wList_eq, wNat_eq] at ha
            split at ha
            · rename_i h2' hset
              simp at ha
              obtain ⟨rfl, rfl⟩ := ha
              obtain ⟨q1, q2⟩ := setH_eq hset
              rcases findKey_sk (w := w) hl hf with ⟨_, h3⟩ | ⟨j', e', e1, _⟩
              · have hlr : LR (ER i) (es ++ [(kv, yv, c)]) (ents.push { key := kv, val := z, born := c }).toList := by
                  rw [Array.toList_push]
                  exact hl.app ⟨⟨rfl, hy i, rfl⟩, trivial⟩
                refine ⟨.tuple #[z, .int .i64 (c : Nat)], _, ?_, ⟨_, rfl, hy i, ⟨rfl, rfl⟩, trivial⟩, by rw [q1, q2]; exact hR.setObj hb (by simp) hi (ob := .map (ents.push { key := kv, val := z, born := c }) (c + 1)) ⟨_, rfl, hlr⟩⟩
                simp only [Instr.mapEntry, Sem.run_bind, run_underlying hd, Result.andThen_ok, hg, pv_run w hc, h3, zeroOf_run hz]
                rw [run_setObj' h1 (by simp)]
                simp [goInt]
              · cases e1
            · cases ha
          · cases ha
        · cases ha
      · cases ha
    · cases ha
  · cases ha
def fidx (n : Nat) : List (Value × V1 × Nat) → Nat → Option Nat
  | [], _ => none
  | e :: l, j => cond (Nat.beq e.2.2 n) (wNat j some) (fidx n l (j + 1))
theorem fidx_eq {n : Nat} : ∀ {es : List (Value × V1 × Nat)} {ents : List MapEntry} (j k : Nat), LR (ER i) es ents → fidx n es j = some k → ∃ m, k = j + m ∧ ents.findIdx? (fun e => (e.born : Int) == (n : Int)) = some m
  | [], _, j, k, _, h => by simp [fidx] at h
  | e :: es, o :: ents, j, k, ⟨h1, h2⟩, h => by
    simp only [fidx, wNat_eq] at h
    rw [List.findIdx?_cons]
    have hb : o.born = e.2.2 := h1.2.2
    cases hq : Nat.beq e.2.2 n with
    | true =>
      rw [hq] at h
      simp at h
      subst h
      have := beq_of hq
      exact ⟨0, by omega, by simp [hb, this]⟩
    | false =>
      rw [hq] at h
      simp only [cond_false] at h
      obtain ⟨m, g1, g2⟩ := fidx_eq (j + 1) k h2 h
      have hne : ¬ e.2.2 = n := fun e1 => by rw [beq_tt e1] at hq; cases hq
      refine ⟨m + 1, by omega, ?_⟩
      have : ((o.born : Int) == (n : Int)) = false := by rw [hb]; simp; exact fun e1 => hne (by omega)
      rw [this]
      simp [g2]
def aMapEntrySet (h : Hp) (x s y : AV) : Option Hp :=
  match x, s, y with
  | .v (.c (.m b)), .v (.c (.x (.int _ (.ofNat n)))), .v yv => (match h.m.get b with
    | some (.m es c) => (match fidx n es 0 with
      | some j => wList (es.modify j fun e => (e.1, yv, e.2.2)) fun es' => setH h b (.m es' c)
      | none => none)
    | _ => none)
  | _, _, _ => none
theorem aMapEntrySet_eq (hR : Rel w0 i h.m.get h.n w) {t : TypeId} {x s y : AV} {u sv v : Value} {h' : Hp} (hx : AR i x u) (hs : AR i s sv) (hy : AR i y v) (ha : aMapEntrySet h x s y = some h') :
    ∃ w', (Instr.entryStore t u sv v).run P w = .ok () w' ∧ Rel w0 i h'.m.get h'.n w' := by
  unfold aMapEntrySet at ha
  split at ha
  · rename_i b kk n yv
    obtain ⟨q, N, hi, rfl⟩ := hx
    obtain ⟨rfl, _⟩ := hs
    split at ha
    · rename_i es c hb
      obtain ⟨ob, h1, ents, rfl, hl⟩ := hR.obj b _ q N hb hi
      have hg : (getObj q).run P w = .ok (.map ents c) w := by simp [getObj, Sem.run, h1]
      split at ha
      · rename_i j hj
        simp only [wList_eq] at ha
        obtain ⟨q1, q2⟩ := setH_eq ha
        obtain ⟨m, g1, g2⟩ := fidx_eq 0 j hl hj
        have hjm : j = m := by omega
        subst hjm
        have hf : ents.findIdx? (fun e => (e.born : Int) == (n : Int)) = some j := by
          obtain ⟨l⟩ := ents
          rw [List.findIdx?_toArray]
          exact g2
        have hlr : LR (ER i) (es.modify j fun e => (e.1, yv, e.2.2)) (ents.modify j fun e => { e with val := v }).toList := by
          rw [Array.toList_modify]
          exact hl.modify (fun a b hab => ⟨hab.1, hy, hab.2.2⟩) j
        refine ⟨_, ?_, by rw [q1, q2]; exact hR.setObj hb (by simp) hi (ob := .map (ents.modify j fun e => { e with val := v }) c) ⟨_, rfl, hlr⟩⟩
        simp only [Instr.entryStore, Sem.run_bind, Sem.run_pure, Result.andThen_ok, hg, asInt, asIntOf]
        simp only [Int.ofNat_eq_natCast] at *
        rw [hf]
        exact run_setObj' h1 (by simp)
      · cases ha
    · cases ha
  · cases ha
def aDelete (P : Program) (h : Hp) (ats : List TypeId) (x k : AV) : Option Hp :=
  match ats with
  | t :: _ => (match P.underlying t, x, plain k with
    | some (.map kt _), .v (.c (.m b)), some kv => (match h.m.get b with
      | some (.m es c) => (match pv P (Instr.checkKey es.isEmpty 10000 kt kv), pv P (Instr.findKey kt kv (sk es)) with
        | some _, some (some (j, _)) => wList (es.eraseIdx j) fun es' => setH h b (.m es' c)
        | some _, some none => some h
        | _, _ => none)
      | _ => none)
    | _, _, _ => none)
  | _ => none
theorem LR.eraseIdx {α β : Type} {R : α → β → Prop} : ∀ {l : List α} {m : List β}, LR R l m → ∀ j, LR R (l.eraseIdx j) (m.eraseIdx j)
  | [], [], _, j => by simp [LR]
  | _ :: _, _ :: _, ⟨h1, h2⟩, 0 => h2
  | _ :: _, _ :: _, ⟨h1, h2⟩, j + 1 => ⟨h1, LR.eraseIdx h2 j⟩
theorem aDelete_eq (hR : Rel w0 i h.m.get h.n w) {ats : Array TypeId} {ty : TypeId} {x k : AV} {u kv : Value} {h' : Hp} (hx : AR i x u) (hk : AR i k kv) (ha : aDelete P h ats.toList x k = some h') :
    ∃ w', (Builtin.delete_ ats ty #[u, kv]).run P w = .ok (.tuple #[]) w' ∧ Rel w0 i h'.m.get h'.n w' := by
  unfold aDelete at ha
  split at ha
  · rename_i t rest hats
    have h0 : ats[0]? = some t := by cases ats; simp_all
    split at ha
    · rename_i kt et b kv' hd hpk
      obtain rfl := plain_eq hpk hk
      obtain ⟨q, N, hi, rfl⟩ := hx
      split at ha
      · rename_i es c hb
        obtain ⟨ob, h1, ents, rfl, hl⟩ := hR.obj b _ q N hb hi
        have hg : (getObj q).run P w = .ok (.map ents c) w := by simp [getObj, Sem.run, h1]
        split at ha
        · rename_i j vv hc hf
          simp only [wList_eq] at ha
          obtain ⟨q1, q2⟩ := setH_eq ha
          rcases findKey_sk (w := w) hl hf with ⟨e1, _⟩ | ⟨j', e', e1, h2, h3⟩
          · cases e1
          · simp at e1
            obtain ⟨rfl, rfl⟩ := e1
            have hj : j < ents.size := by have h2' : ents[j]? = some e' := by simpa using h2
                                          exact (Array.getElem?_eq_some_iff.1 h2').1
            have hlr : LR (ER i) (es.eraseIdx j) (ents.eraseIdxIfInBounds j).toList := by
              rw [show ents.eraseIdxIfInBounds j = ents.eraseIdx j hj by simp [Array.eraseIdxIfInBounds, hj], Array.toList_eraseIdx]
              exact hl.eraseIdx j
            refine ⟨{ w with heap := w.heap.setIfInBounds q (.map (ents.eraseIdxIfInBounds j) c) }, ?_, by rw [q1, q2]; exact hR.setObj hb (by simp) hi (ob := .map (ents.eraseIdxIfInBounds j) c) ⟨_, rfl, hlr⟩⟩
            · have hset := run_setObj' (P := P) (w := w) (k := q) (o := .map ents c) (ob := .map (ents.eraseIdxIfInBounds j) c) h1 (by simp)
              simp [Builtin.delete_, h0, run_underlying hd, hg, isEmpty_eq hl, pv_run w hc, h3, hset]
        · rename_i hc hf
          simp at ha
          subst ha
          rcases findKey_sk (w := w) hl hf with ⟨_, h3⟩ | ⟨j', e', e1, _⟩
          · have hset := run_setObj' (P := P) (w := w) (k := q) (o := .map ents c) (ob := .map ents c) h1 (by simp)
            refine ⟨{ w with heap := w.heap.setIfInBounds q (.map ents c) }, by simp [Builtin.delete_, h0, run_underlying hd, hg, isEmpty_eq hl, pv_run w hc, h3, hset], ?_⟩
            have := hR.setObj hb (by simp) hi (o' := .m es c) (ob := .map ents c) ⟨_, rfl, hl⟩
            rw [up_self hb] at this
            exact this
          · cases e1
        · cases ha
      · cases ha
    · cases ha
  · cases ha
/- length, a new map, a function -/
def aLen (P : Program) (h : Hp) (ats : List TypeId) (x : AV) : Option AV :=
  match ats with
  | t :: _ => (match P.underlying t, x with
    | some (.slice _), .v (.c (.s b o n c z ex)) => some (.v (.c (.x (.int .i64 (.ofNat n)))))
    | some (.map _ _), .v (.c (.m b)) => (match h.m.get b with
      | some (.m es _) => wNat es.length fun n => some (.v (.c (.x (.int .i64 (.ofNat n)))))
      | _ => none)
    | _, _ => none)
  | _ => none
theorem aLen_eq (hR : Rel w0 i h.m.get h.n w) {ats : Array TypeId} {ty : TypeId} {x y : AV} {u : Value} (hx : AR i x u) (ha : aLen P h ats.toList x = some y) : ∃ v, (Builtin.len_ ats ty #[u]).run P w = .ok v w ∧ AR i y v := by
  unfold aLen at ha
  split at ha
  · rename_i t rest hats
    have h0 : ats[0]? = some t := by cases ats; simp_all
    split at ha
    · rename_i e b o n c z ex hd
      simp at ha
      subst ha
      obtain ⟨k, N, c', hi, rfl, _⟩ := hx
      exact ⟨.int .i64 (.ofNat n), by simp [Builtin.len_, h0, run_underlying hd, goInt], rfl, rfl⟩
    · rename_i kt et b hd
      split at ha
      · rename_i es c hb
        simp at ha
        subst ha
        obtain ⟨q, N, hi, rfl⟩ := hx
        obtain ⟨ob, h1, ents, rfl, hl⟩ := hR.obj b _ q N hb hi
        have hg : (getObj q).run P w = .ok (.map ents c) w := by simp [getObj, Sem.run, h1]
        have hlen : ents.size = es.length := by have := hl.len; simp at this; omega
        exact ⟨.int .i64 (.ofNat es.length), by simp [Builtin.len_, h0, run_underlying hd, hg, goInt, hlen], rfl, rfl⟩
      · cases ha
    · cases ha
  · cases ha
def aMakeMap (h : Hp) : Option (AV × Hp) := match h.m.set 64 h.n (.m [] 0) with | some m => wNat (h.n + 1) fun n => some (.v (.c (.m h.n)), ⟨m, n⟩) | none => none
theorem aMakeMap_eq (hR : Rel w0 i h.m.get h.n w) {t : TypeId} {y : AV} {h' : Hp} (ha : aMakeMap h = some (y, h')) : Ran P w0 (do pure (Next.value (← Instr.makeMap t none))) i w y h' := by
  unfold aMakeMap at ha
  split at ha
  · rename_i m hm
    simp at ha
    obtain ⟨rfl, rfl⟩ := ha
    have hrun : (Instr.makeMap t none).run P w = .ok (.map (some w.heap.size)) (w.alloc (.map #[] 0)) := by simp [Instr.makeMap]
    refine Ran.val hrun (hR.le (w.heap.size, 0)) ?_ ⟨_, _, put_self _ _ _, rfl⟩
    dsimp only
    rw [up_get hm]
    exact hR.alloc 0 ⟨#[], rfl, trivial⟩
  · cases ha
def capOf : List AV → Option (List Cap)
  | [] => some []
  | .v (.c (.x v)) :: l => (match capOf l with | some m => some (.x v :: m) | none => none)
  | .v (.c (.p b o)) :: l => (match capOf l with | some m => some (.p b o :: m) | none => none)
  | _ => none
theorem capOf_eq : ∀ {l : List AV} {us : List Value} {m : List Cap}, LR (AR i) l us → capOf l = some m → LR (CapR i) m us
  | [], [], m, _, h => by simp [capOf] at h; subst h; trivial
  | x :: l, u :: us, m, ⟨h1, h2⟩, h => by
    unfold capOf at h
    split at h
    · rename_i hq; simp at hq
    · rename_i v l' heq
      simp at heq
      obtain ⟨rfl, rfl⟩ := heq
      split at h
      · rename_i m' hm
        simp at h
        subst h
        exact ⟨h1, capOf_eq h2 hm⟩
      · cases h
    · rename_i b o l' heq
      simp at heq
      obtain ⟨rfl, rfl⟩ := heq
      split at h
      · rename_i m' hm
        simp at h
        subst h
        exact ⟨h1, capOf_eq h2 hm⟩
      · cases h
    · cases h
  | [], _ :: _, _, h, _ => h.elim
  | _ :: _, [], _, h, _ => h.elim
end
end R
end Go.Proofs.YtcccdlmngddalaaGreat
