/- A run's operations, one by one. -/
import Derived.Test.YtcccdlmngddalaaGreatRun2
set_option linter.unusedVariables false
set_option linter.unusedSimpArgs false
set_option linter.unusedSectionVars false
namespace Go.Proofs.YtcccdlmngddalaaGreat
open Go.RowKit
namespace R
variable [vl : Val]
section
variable {P : Program} {w0 : Base} {i : Inj} {h : Hp} {w : World}
def Ran (P : Program) (w0 : Base) (s : Sem Next) (i : Inj) (w : World) (x : AV) (h' : Hp) : Prop :=
  ∃ j nx w', s.run P w = .ok nx w' ∧ Le i j ∧ Rel w0 j h'.m.get h'.n w' ∧ ((∃ v, nx = .value v ∧ AR j x v) ∨ (nx = .skip ∧ AR j x undef))
theorem Ran.val {s : Sem Value} {x : AV} {h' : Hp} {j : Inj} {v : Value} {w' : World} (h1 : s.run P w = .ok v w') (h2 : Le i j) (h3 : Rel w0 j h'.m.get h'.n w') (h4 : AR j x v) : Ran P w0 (do pure (Next.value (← s))) i w x h' :=
  ⟨j, _, w', by simp [h1], h2, h3, .inl ⟨v, rfl, h4⟩⟩
theorem Ran.same {s : Sem Value} {x : AV} {v : Value} (hR : Rel w0 i h.m.get h.n w) (h1 : s.run P w = .ok v w) (h4 : AR i x v) : Ran P w0 (do pure (Next.value (← s))) i w x h := Ran.val h1 (Le.refl i) hR h4
def udf : AV := .t []
theorem udf_eq (i : Inj) : AR i udf undef := ⟨#[], rfl, trivial⟩
/- new blocks -/
def triOf : List Cel → Nat → Tri Cel → Option (Tri Cel)
  | [], _, t => some t
  | c :: l, o, t => match t.set 64 o c with | none => none | some t' => triOf l (o + 1) t'
theorem triOf_eq : ∀ (l : List Cel) (o : Nat) (t t' : Tri Cel), triOf l o t = some t' → ∀ j, t'.get j = if o ≤ j ∧ j < o + l.length then l[j - o]? else t.get j
  | [], o, t, t', h, j => by simp [triOf] at h; subst h; rw [if_neg (by simp)]
  | c :: l, o, t, t', h, j => by
    simp only [triOf] at h
    split at h
    · cases h
    · rename_i t1 ht
      rw [triOf_eq l (o + 1) t1 t' h j, Tri.get_set _ _ _ _ _ ht]
      by_cases e : j = o
      · subst e
        rw [if_neg (by omega), if_pos rfl, if_pos (by simp)]
        simp
      · rw [if_neg e]
        by_cases e2 : o + 1 ≤ j ∧ j < o + 1 + l.length
        · rw [if_pos e2, if_pos (by simp; omega), show j - o = (j - (o + 1)) + 1 by omega]
          simp
        · rw [if_neg e2, if_neg (by simp; omega)]
def aNew (h : Hp) (e : TypeId) (l : List Cel) : Option Hp :=
  match triOf l 0 .e with
  | some t => (match h.m.set 64 h.n (.c e t) with | some m => wNat (h.n + 1) fun n => some ⟨m, n⟩ | none => none)
  | none => none
theorem aNew_more (hR : Rel w0 i h.m.get h.n w) {e : TypeId} {l : List Cel} {h' : Hp} (hn : aNew h e l = some h') {us : List Value} (hl : LR (CR i) l us) (arr : Array Value) (ha : arr.toList.take us.length = us) :
    Rel w0 (put i h.n (w.heap.size, arr.size)) h'.m.get h'.n (w.alloc (.cells arr e)) := by
  unfold aNew at hn
  split at hn
  · rename_i t ht
    split at hn
    · rename_i m hm
      simp at hn
      subst hn
      dsimp only
      rw [up_get hm]
      refine hR.alloc arr.size ⟨arr, rfl, rfl, fun j x hj => ?_⟩
      rw [triOf_eq _ _ _ _ ht] at hj
      split at hj
      · rename_i hlt
        simp at hj
        obtain ⟨u, h1, h2⟩ := hl.get j x hj
        refine ⟨u, ?_, h2.mono (hR.le _)⟩
        rw [← ha, List.getElem?_take] at h1
        split at h1
        · simpa using h1
        · cases h1
      · simp [Tri.get] at hj
    · cases hn
  · cases hn
theorem aNew_eq (hR : Rel w0 i h.m.get h.n w) {e : TypeId} {l : List Cel} {h' : Hp} (hn : aNew h e l = some h') {us : Array Value} (hl : LR (CR i) l us.toList) :
    Rel w0 (put i h.n (w.heap.size, us.size)) h'.m.get h'.n (w.alloc (.cells us e)) := aNew_more hR hn hl us (by rw [List.take_of_length_le (by simp)])
theorem put_self (i : Inj) (b : Nat) (y : Nat × Nat) : put i b y b = some y := by simp [put]
theorem run_newRow' (e : TypeId) (us : Array Value) : (newRow e us).run P w = .ok ⟨w.heap.size, 0, none⟩ (w.alloc (.cells us e)) := by simp [newRow]
/- box, alloc -/
def aBox (h : Hp) (e : TypeId) (x : AV) : Option (AV × Hp) :=
  match celsOf x with
  | some l => (match aNew h e l with | some h' => some (.v (.c (.p h.n 0)), h') | none => none)
  | none => none
theorem aBox_eq (hR : Rel w0 i h.m.get h.n w) {e : TypeId} {x y : AV} {u : Value} {h' : Hp} (hx : AR i x u) (hb : aBox h e x = some (y, h')) : Ran P w0 (do pure (Next.value (← Instr.box e u))) i w y h' := by
  unfold aBox at hb
  split at hb
  · rename_i l hl
    split at hb
    · rename_i h1 hn
      simp at hb
      obtain ⟨rfl, rfl⟩ := hb
      exact Ran.val (by simp [Instr.box, newVar, run_newRow']) (hR.le _) (aNew_eq hR hn (celsOf_eq hl hx)) ⟨_, _, put_self _ _ _, rfl⟩
    · cases hb
  · cases hb
def zeroOf (P : Program) (e : TypeId) : Option Value := match P.info? e with | some i => i.zero | none => none
theorem zeroOf_run {e : TypeId} {z : Value} (hz : zeroOf P e = some z) (w : World) : (zeroValue e).run P w = .ok z w := by
  unfold zeroOf at hz
  split at hz
  · rename_i i hi; simp [zeroValue, typeInfo, hi, hz]
  · cases hz
def aAlloc (P : Program) (h : Hp) (e : TypeId) : Option (AV × Hp) :=
  match zeroOf P e with
  | some z => wCels z.cells.toList fun l => (match aNew h e l with | some h' => some (.v (.c (.p h.n 0)), h') | none => none)
  | none => none
theorem aAlloc_eq (hR : Rel w0 i h.m.get h.n w) {e : TypeId} {y : AV} {h' : Hp} (hb : aAlloc P h e = some (y, h')) : Ran P w0 (do pure (Next.value (← Instr.alloc e true (.tuple #[])))) i w y h' := by
  unfold aAlloc at hb
  split at hb
  · rename_i z hz
    obtain ⟨l, hb, hl⟩ := wCels_eq hb
    split at hb
    · rename_i h1 hn
      simp at hb
      obtain ⟨rfl, rfl⟩ := hb
      exact Ran.val (by simp [Instr.alloc, zeroOf_run hz, newVar, run_newRow']) (hR.le _) (aNew_eq hR hn (hl i)) ⟨_, _, put_self _ _ _, rfl⟩
    · cases hb
  · cases hb
/- parts of aggregates are laid -/
def sets : List Cel → Nat → List Cel → List Cel
  | cs, _, [] => cs
  | cs, o, c :: l => sets (cs.set o c) (o + 1) l
theorem LR.set {α β : Type} {R : α → β → Prop} : ∀ {l : List α} {m : List β}, LR R l m → ∀ (k : Nat) {a : α} {b : β}, R a b → LR R (l.set k a) (m.set k b)
  | [], [], _, _, _, _, _ => trivial
  | _ :: _, _ :: _, ⟨_, h2⟩, 0, _, _, h => ⟨h, h2⟩
  | _ :: _, _ :: _, ⟨h1, h2⟩, k + 1, _, _, h => ⟨h1, LR.set h2 k h⟩
theorem sets_eq : ∀ (l : List Cel) (us : List Value) (cs : List Cel) (arr : Array Value) (o k : Nat), LR (CR i) cs arr.toList → LR (CR i) l us → LR (CR i) (sets cs (o + k) l) ((us.zipIdx k).foldl (fun cs (c, j) => cs.setIfInBounds (o + j) c) arr).toList
  | [], [], _, _, _, _, h, _ => h
  | c :: l, u :: us, cs, arr, o, k, h, ⟨h1, h2⟩ => by
    simp only [sets, List.zipIdx_cons, List.foldl_cons]
    have := sets_eq l us (cs.set (o + k) c) (arr.setIfInBounds (o + k) u) o (k + 1) (by simpa using h.set (o + k) h1) h2
    simpa [Nat.add_assoc] using this
  | [], _ :: _, _, _, _, _, _, h => h.elim
  | _ :: _, [], _, _, _, _, _, h => h.elim
def fillA (place : Nat → Option (Nat × Nat)) : List Cel → List (Nat × AV) → Option (List Cel)
  | cs, [] => some cs
  | cs, (k, v) :: rest => match place k with
    | none => none
    | some (o, n) => (match celsOf v with
      | none => none
      | some l => cond (Nat.beq l.length n) (cond (Nat.ble (o + l.length) cs.length) (wList (sets cs o l) fun cs' => fillA place cs' rest) none) none)
theorem fillA_eq {place : Nat → Option (Nat × Nat)} : ∀ (ps : List (Nat × AV)) (qs : List (Nat × Value)) (cs cs' : List Cel) (arr : Array Value), LR (fun p q => q.1 = p.1 ∧ AR i p.2 q.2) ps qs → LR (CR i) cs arr.toList → fillA place cs ps = some cs' →
    ∃ arr', Instr.fill place arr qs = some arr' ∧ LR (CR i) cs' arr'.toList
  | [], [], cs, cs', arr, _, h, hf => by simp [fillA] at hf; subst hf; exact ⟨arr, rfl, h⟩
  | (k, v) :: ps, (k', u) :: qs, cs, cs', arr, ⟨⟨h0, h1⟩, h2⟩, h, hf => by
    dsimp only at h0 h1
    subst h0
    simp only [fillA] at hf
    split at hf
    · cases hf
    · rename_i o n hp
      split at hf
      · cases hf
      · rename_i l hl
        have hc := celsOf_eq hl h1
        cases hb : Nat.beq l.length n with
        | false => simp [hb] at hf
        | true =>
          cases hb2 : Nat.ble (o + l.length) cs.length with
          | false => simp [hb, hb2] at hf
          | true =>
            simp only [hb, hb2, cond_true, wList_eq] at hf
            have e1 : u.cells.size = n := by have := hc.len; simp at this; have := Nat.eq_of_beq_eq_true hb; omega
            have e2 : ¬ (o + u.cells.size > arr.size) := by have := hc.len; have h3 := h.len; simp at this h3; have := Nat.le_of_ble_eq_true hb2; omega
            have e3 := sets_eq l u.cells.toList cs arr o 0 h hc
            obtain ⟨arr', h4, h5⟩ := fillA_eq ps qs _ cs' (u.cells.zipIdx.foldl (fun cs (c, j) => cs.setIfInBounds (o + j) c) arr) h2 (by
              rw [← Array.foldl_toList, Array.toList_zipIdx]; simpa using e3) hf
            refine ⟨arr', ?_, h5⟩
            simp only [Instr.fill, hp]
            rw [if_neg (by simp only [Bool.or_eq_true, decide_eq_true_eq]; omega)]
            exact h4
  | [], _ :: _, _, _, _, h, _, _ => h.elim
  | _ :: _, [], _, _, _, h, _, _ => h.elim
def evs (t : Tri AV) : List (Nat × Operand) → Option (List (Nat × AV))
  | [] => some []
  | (k, x) :: l => match ev t x with | none => none | some y => match evs t l with | none => none | some m => some ((k, y) :: m)
theorem evs_eq {t : Tri AV} {ρ : Operand → Value} (hρ : ∀ x y, ev t x = some y → AR i y (ρ x)) : ∀ (l : List (Nat × Operand)) (m : List (Nat × AV)), evs t l = some m → LR (fun p q => q.1 = p.1 ∧ AR i p.2 q.2) m (l.map fun (k, x) => (k, ρ x))
  | [], m, h => by simp [evs] at h; subst h; trivial
  | (k, x) :: l, m, h => by
    simp only [evs] at h
    split at h
    · cases h
    · rename_i y hy
      split at h
      · cases h
      · rename_i m' hm
        simp at h
        subst h
        exact ⟨⟨rfl, hρ _ _ hy⟩, evs_eq hρ l m' hm⟩
def aBuild (P : Program) (ty : TypeId) (ps : List (Nat × AV)) : Option AV :=
  match zeroOf P ty with
  | none => none
  | some z => wCels z.cells.toList fun zs => (match P.underlying ty with
    | some (.struct fs) => (match pv P (fs.mapM fun f => do pure (f.offset, ← sizeOf f.type)) with
      | some places => (match fillA (places[·]?) zs ps with | some cs => some (.v (.a cs)) | none => none)
      | none => none)
    | some (.array _ e) => (match szOf P e with
      | some n => (match fillA (fun j => some (j * n, n)) zs ps with | some cs => some (.v (.a cs)) | none => none)
      | none => none)
    | _ => none)
theorem aBuild_eq {ty : TypeId} {ps : List (Nat × AV)} {qs : Array (Nat × Value)} {x : AV} (hp : LR (fun p q => q.1 = p.1 ∧ AR i p.2 q.2) ps qs.toList) (hb : aBuild P ty ps = some x) : ∃ u, (∀ w, (Instr.build ty qs).run P w = .ok u w) ∧ AR i x u := by
  unfold aBuild at hb
  split at hb
  · cases hb
  · rename_i z hz
    obtain ⟨zs, hb, hzs⟩ := wCels_eq hb
    split at hb
    · rename_i fs hd
      split at hb
      · rename_i places hpl
        split at hb
        · rename_i cs hf
          simp at hb
          subst hb
          obtain ⟨arr, h1, h2⟩ := fillA_eq ps qs.toList zs cs z.cells hp (hzs i) hf
          exact ⟨.agg arr, fun w => by simp only [Instr.build, Sem.run_bind, zeroOf_run hz, Result.andThen_ok, run_underlying hd, pv_run w hpl, h1, Sem.run_pure], arr, rfl, h2⟩
        · cases hb
      · cases hb
    · rename_i n e hd
      split at hb
      · rename_i k hk
        split at hb
        · rename_i cs hf
          simp at hb
          subst hb
          obtain ⟨arr, h1, h2⟩ := fillA_eq ps qs.toList zs cs z.cells hp (hzs i) hf
          exact ⟨.agg arr, fun w => by simp only [Instr.build, Sem.run_bind, zeroOf_run hz, Result.andThen_ok, run_underlying hd, szOf_run hk, h1, Sem.run_pure], arr, rfl, h2⟩
        · cases hb
      · cases hb
    · cases hb
/- slices are built -/
def zerosL (zs : Array Value) (n : Nat) : List Value := (List.range n).map fun j => zs[j % zs.size]!
theorem zerosL_eq (zs : Array Value) (n : Nat) : ((Array.range n).map (zs[· % zs.size]!)).toList = zerosL zs n := by simp [zerosL]
def aBuildSlice (P : Program) (h : Hp) (ty : TypeId) (len : Nat) (ps : List (Nat × AV)) : Option (AV × Hp) :=
  match P.underlying ty with
  | some (.slice e) => (match szOf P e with
    | some n => gd (Nat.blt 0 n) (gd (Nat.ble (len * n) 16777216) (match (cond (Nat.beq (len * n) 0) (some #[]) (match zeroOf P e with | some z => some z.cells | none => none) : Option (Array Value)) with
      | some zs => wCels (zerosL zs (len * n)) fun cs => (match fillA (fun j => some (j * n, n)) cs ps with
        | some cs => (match aNew h e cs with | some h' => wNat n fun n => some (.v (.c (.s h.n 0 len len n true)), h') | none => none)
        | none => none)
      | none => none))
    | none => none)
  | _ => none
theorem aBuildSlice_eq (hR : Rel w0 i h.m.get h.n w) {ty : TypeId} {len : Nat} {ps : List (Nat × AV)} {qs : Array (Nat × Value)} {x : AV} {h' : Hp} (hp : LR (fun p q => q.1 = p.1 ∧ AR i p.2 q.2) ps qs.toList) (hb : aBuildSlice P h ty len ps = some (x, h')) :
    Ran P w0 (do pure (Next.value (← Instr.buildSlice ty len qs))) i w x h' := by
  unfold aBuildSlice at hb
  split at hb
  · rename_i e hd
    split at hb
    · rename_i n hn
      simp only [gd_eq] at hb
      obtain ⟨h0, hle, hb⟩ := hb
      have h0' : 0 < n := by simpa [Nat.blt_eq] using h0
      have hle' := Nat.le_of_ble_eq_true hle
      split at hb
      · rename_i zs hzs
        obtain ⟨cs0, hb, hcs0⟩ := wCels_eq hb
        split at hb
        · rename_i cs hf
          split at hb
          · rename_i h1 hnew
            simp at hb
            obtain ⟨rfl, rfl⟩ := hb
            obtain ⟨arr, h2, h3⟩ := fillA_eq ps qs.toList cs0 cs ((Array.range (len * n)).map (zs[· % zs.size]!)) hp (by rw [zerosL_eq]; exact hcs0 i) hf
            have hlen : len ≤ maxLen := by
              have : len * 1 ≤ len * n := Nat.mul_le_mul_left _ h0'
              unfold maxLen; omega
            refine Ran.val (j := put i h.n (w.heap.size, arr.size)) (v := .slice (some ⟨w.heap.size, 0, none⟩) len len) (w' := w.alloc (.cells arr e)) ?_ (hR.le _) (aNew_eq hR hnew h3) ⟨_, _, len, put_self _ _ _, rfl, Nat.le_refl _, Nat.le_refl _, hlen, fun _ => rfl, fun hh => by cases hh⟩
            have hno : ¬ (len * n > 2 ^ 24) := by omega
            simp only [Instr.buildSlice, Sem.run_bind, run_underlying hd, Result.andThen_ok, szOf_run hn, if_neg hno]
            by_cases hq : len * n = 0
            · rw [if_pos hq]
              rw [beq_tt hq] at hzs
              simp at hzs
              subst hzs
              simp only [Sem.run_bind, Sem.run_pure, Result.andThen_ok, h2, run_newRow']
            · rw [if_neg hq]
              rw [beq_ff hq] at hzs
              simp only [cond_false] at hzs
              split at hzs
              · rename_i z hz
                simp at hzs
                subst hzs
                simp only [Sem.run_bind, Sem.run_pure, Result.andThen_ok, h2, run_newRow', zeroOf_run hz]
              · cases hzs
          · cases hb
        · cases hb
      · cases hb
    · cases hb
  · cases hb
end
end R
end Go.Proofs.YtcccdlmngddalaaGreat
