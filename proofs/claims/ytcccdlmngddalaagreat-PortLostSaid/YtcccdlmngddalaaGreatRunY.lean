/- A run's operations, one by one: copy, make, append into room that is known, clear, bytes as a string, a map's entry. -/
import Derived.Test.YtcccdlmngddalaaGreatRunX
import Derived.Laws.MakeOwn
import Derived.Laws.BytesArg
set_option linter.unusedVariables false
set_option linter.unusedSimpArgs false
set_option linter.unusedSectionVars false
namespace Go.Proofs.YtcccdlmngddalaaGreat
open Go.RowKit
namespace R
variable [vl : Val]
section
variable {P : Program} {w0 : Base} {i : Inj} {h : Hp} {w : World}
def strCels (l : List UInt8) : List Value := l.map fun b => Value.int .u8 (b.toNat : Int)
def srcCels (h : Hp) (sz k : Nat) : AV → Option (List Cel)
  | .v (.c (.x (.slice none _ _))) => gd (Nat.beq k 0) (some [])
  | .v (.c (.x (.string s))) => wCels (strCels (s.data.toList.take k)) fun l => some l
  | .v (.c (.s b o n c z ex)) => (match h.m.get b with
    | some (.c _ t) => rd t o (k * sz)
    | _ => none)
  | _ => none
def lenA : AV → Option Nat
  | .v (.c (.x (.slice none n _))) => some n
  | .v (.c (.x (.string s))) => some s.data.toList.length
  | .v (.c (.s _ _ n _ _ _)) => some n
  | _ => none
theorem lenA_eq {x : AV} {u : Value} {n : Nat} (hx : AR i x u) (ha : lenA x = some n) (w : World) : (Builtin.lenOf u).run P w = .ok n w := by
  unfold lenA at ha
  split at ha
  · simp at ha; subst ha; obtain ⟨rfl, _⟩ := hx; rfl
  · rename_i s
    simp at ha; subst ha; obtain ⟨rfl, _⟩ := hx
    rfl
  · simp at ha; subst ha; obtain ⟨k, N, c', _, rfl, _⟩ := hx; rfl
  · cases ha
theorem srcCels_eq (hR : Rel w0 i h.m.get h.n w) {x : AV} {u : Value} {sz k : Nat} {l : List Cel} (hx : AR i x u) (ha : srcCels h sz k x = some l) (h1 : sz = 1 ∨ ∀ s, u ≠ .string s) : ∃ us : List Value, (Builtin.firstCells sz k u).run P w = .ok us.toArray w ∧ LR (CR i) l us := by
  unfold srcCels at ha
  split at ha
  · rw [gd_eq] at ha
    obtain ⟨_, ha⟩ := ha
    simp at ha; subst ha
    obtain ⟨rfl, _⟩ := hx
    exact ⟨[], rfl, trivial⟩
  · rename_i s
    obtain ⟨cs, ha, hcs⟩ := wCels_eq (k := fun l => some l) ha
    simp at ha; subst ha
    obtain ⟨rfl, _⟩ := hx
    refine ⟨_, ?_, hcs i⟩
    simp only [Builtin.firstCells, Sem.run_pure, strCels]
    congr 1
    apply Array.toList_inj.1
    simp [ByteArray.data_extract, List.extract_eq_take_drop]
  · rename_i b o n c z ex
    obtain ⟨q, N, c', hi, rfl, _⟩ := hx
    split at ha
    · rename_i e t hb
      obtain ⟨us, g1, g2, g3⟩ := rd_eq (w := w) (i := i) (k := q) (fun j x hj => let ⟨u, h1, h2, _⟩ := hR.cell hb hi hj; ⟨u, h1, h2⟩) _ _ _ ha
      refine ⟨us, ?_, g2⟩
      exact run_firstCells_some w sz k ⟨q, o, none⟩ n c' us g1 (fun j v hj => by rw [addr_add]; exact g3 j v hj)
    · cases ha
  · cases ha
def aCopy (P : Program) (h : Hp) (ats : List TypeId) (dst src : AV) : Option (AV × Hp) :=
  match ats with
  | t :: _ => (match P.underlying t, dst, lenA src with
    | some (.slice e), .v (.c (.s b o n c z ex)), some m => (match szOf P e with
      | some sz => gd (cond (isStr src) (Nat.beq sz 1) true) (wNat (Nat.min m n) fun k => (match srcCels h sz k src, h.m.get b with
        | some l, some (.c e' tr) => (match wr tr o l with
          | some tr' => (match setH h b (.c e' tr') with | some h' => some (.v (.c (.x (.int .i64 (.ofNat k)))), h') | none => none)
          | none => none)
        | _, _ => none))
      | none => none)
    | _, _, _ => none)
  | _ => none
theorem isStr_no {x : AV} {u : Value} (hx : AR i x u) (hs : isStr x = false) : ∀ s, u ≠ .string s := by
  intro s e
  subst e
  cases x with
  | t l => obtain ⟨us, h, _⟩ := hx; cases h
  | v y =>
    cases y with
    | a l => obtain ⟨us, h, _⟩ := hx; cases h
    | c c =>
      cases c with
      | x v => cases hs
      | p b o => obtain ⟨_, _, _, h⟩ := hx; cases h
      | s b o n c z ex => obtain ⟨_, _, _, _, h, _⟩ := hx; cases h
      | m b => obtain ⟨_, _, _, h⟩ := hx; cases h
      | f g fs cs => obtain ⟨_, _, h, _⟩ := hx; cases h
      | y b => obtain ⟨_, _, _, h⟩ := hx; cases h
      | q n => have h : Value.string s = _ := hx; cases h
theorem aCopy_eq (hR : Rel w0 i h.m.get h.n w) {ats : Array TypeId} {ty : TypeId} {x y z : AV} {u v : Value} {h' : Hp} (hx : AR i x u) (hy : AR i y v) (ha : aCopy P h ats.toList x y = some (z, h')) :
    Ran P w0 (do pure (Next.value (← Builtin.copy_ ats ty #[u, v]))) i w z h' := by
  unfold aCopy at ha
  split at ha
  · rename_i t rest hats
    have h0 : ats[0]? = some t := by cases ats; simp_all
    split at ha
    · rename_i e b o n c zz ex m hd hm
      obtain ⟨q, N, c', hi, rfl, _⟩ := hx
      split at ha
      · rename_i sz hsz
        simp only [gd_eq, wNat_eq] at ha
        obtain ⟨hst, ha⟩ := ha
        split at ha
        · rename_i l e' tr hl hb
          split at ha
          · rename_i tr' hw
            split at ha
            · rename_i h1 hs
              simp at ha
              obtain ⟨rfl, rfl⟩ := ha
              have hsz1 : sz = 1 ∨ ∀ s, v ≠ .string s := by
                cases hq : isStr y with
                | true => rw [hq] at hst; exact .inl (beq_of hst)
                | false => exact .inr (isStr_no hy hq)
              obtain ⟨us, g1, g2⟩ := srcCels_eq (P := P) hR hy hl hsz1
              obtain ⟨q1, q2⟩ := setH_eq hs
              obtain ⟨w', g3, g4⟩ := wr_eq (P := P) hi l us 0 o _ w tr tr' hR hb g2 hw
              refine ⟨i, _, w', ?_, Le.refl i, by rw [q1, q2]; exact g4, .inl ⟨.int .i64 (.ofNat (Nat.min m n)), rfl, rfl, rfl⟩⟩
              simp [Builtin.copy_, h0, run_underlying hd, lenA_eq (P := P) hy hm w, szOf_run hsz, g1, g3, goInt]
            · cases ha
          · cases ha
        · cases ha
      · cases ha
    · cases ha
  · cases ha
def aMakeSlice (P : Program) (h : Hp) (t : TypeId) (l c : AV) : Option (AV × Hp) :=
  match P.underlying t, natOf l, natOf c with
  | some (.slice e), some l, some c => (match P.info? e with
    | some inf => (match inf.zero with
      | some zv => gd (Nat.ble l c) (gd (Nat.ble (c * inf.size) 16777216) (gd (Nat.ble (inf.bytes * c) 281474976710656) (gd (Nat.ble c 16777216) (wCels (zerosL zv.cells (c * inf.size)) fun cs => (match aNew h e cs with
        | some h' => wNat inf.size fun z => some (.v (.c (.s h.n 0 l c z true)), h')
        | none => none)))))
      | none => none)
    | none => none)
  | _, _, _ => none
theorem made_toList (z : Array Value) (n : Nat) : (madeCells z n).toList = zerosL z n := by unfold madeCells zerosL; simp
theorem aMakeSlice_eq (hR : Rel w0 i h.m.get h.n w) {t : TypeId} {x y z : AV} {u v : Value} {h' : Hp} (hx : AR i x u) (hy : AR i y v) (ha : aMakeSlice P h t x y = some (z, h')) : Ran P w0 (do pure (Next.value (← Instr.makeSlice t u v))) i w z h' := by
  unfold aMakeSlice at ha
  split at ha
  · rename_i e l c hd hl hc
    obtain ⟨kl, rfl⟩ := natOf_eq hl hx
    obtain ⟨kc, rfl⟩ := natOf_eq hc hy
    split at ha
    · rename_i inf hinf
      split at ha
      · rename_i zv hzv
        simp only [gd_eq] at ha
        obtain ⟨h1, h2, h3, h4, ha⟩ := ha
        have h1 := ble_of h1
        have h2 := ble_of h2
        have h3 := ble_of h3
        have h4 := ble_of h4
        obtain ⟨cs, ha, hcs⟩ := wCels_eq ha
        split at ha
        · rename_i h5 hn
          simp at ha
          obtain ⟨rfl, rfl⟩ := ha
          have hrun := run_makeSlice (P := P) w t e inf zv hd hinf hzv kl kc (l : Int) (c : Int) (by omega) (by omega) (by rw [Int.toNat_natCast]; exact h2) (by omega) (by omega)
          simp only [Int.toNat_natCast] at hrun
          exact Ran.val hrun (hR.le _) (aNew_eq hR hn (by rw [made_toList]; exact hcs i)) ⟨_, _, c, put_self _ _ _, rfl, h1, Nat.le_refl _, by unfold maxLen; omega, fun _ => rfl, fun hh => (by cases hh)⟩
        · cases ha
      · cases ha
    · cases ha
  · cases ha
def notInt : TypeDesc → Bool
  | .int _ => false
  | _ => true
def aAppIn (P : Program) (h : Hp) (ats : List TypeId) (s x : AV) : Option (AV × Hp) :=
  match ats, s with
  | [t, t'], .v (.c (.s b o n c z ex)) => (match P.underlying t, P.underlying t', lenA x with
    | some (.slice e), some d, some m => (match szOf P e with
      | some sz => gd (notInt d) (gd (cond (isStr x) (Nat.beq sz 1) true) (gd (Nat.ble (n + m) c) (match srcCels h sz m x, h.m.get b with
        | some l, some (.c e' tr) => (match wr tr (o + n * sz) l with
          | some tr' => (match setH h b (.c e' tr') with | some h' => wNat (n + m) fun nm => some (.v (.c (.s b o nm c z ex)), h') | none => none)
          | none => none)
        | _, _ => none)))
      | none => none)
    | _, _, _ => none)
  | _, _ => none
theorem aAppIn_eq (hR : Rel w0 i h.m.get h.n w) {ats : Array TypeId} {ty : TypeId} {x y z : AV} {u v : Value} {h' : Hp} (hx : AR i x u) (hy : AR i y v) (ha : aAppIn P h ats.toList x y = some (z, h')) :
    Ran P w0 (do pure (Next.value (← Builtin.append_ ats ty #[u, v]))) i w z h' := by
  unfold aAppIn at ha
  split at ha
  · rename_i t t' b o n c zz ex hats
    obtain rfl : ats = #[t, t'] := by cases ats; simp_all
    obtain ⟨q, N, c', hi, rfl, hnc, hcc, hmax, hex, hnx⟩ := hx
    split at ha
    · rename_i e d m hd hd' hm
      split at ha
      · rename_i sz hsz
        simp only [gd_eq] at ha
        obtain ⟨hni, hst, hroom, ha⟩ := ha
        have hroom := ble_of hroom
        split at ha
        · rename_i l e' tr hl hb
          split at ha
          · rename_i tr' hw
            split at ha
            · rename_i h1 hs
              simp at ha
              obtain ⟨rfl, rfl⟩ := ha
              have hsz1 : sz = 1 ∨ ∀ s, v ≠ .string s := by
                cases hq : isStr y with
                | true => rw [hq] at hst; exact .inl (beq_of hst)
                | false => exact .inr (isStr_no hy hq)
              obtain ⟨us, g1, g2⟩ := srcCels_eq (P := P) hR hy hl hsz1
              obtain ⟨q1, q2⟩ := setH_eq hs
              obtain ⟨w', g3, g4⟩ := wr_eq (P := P) hi l us 0 (o + n * sz) _ w tr tr' hR hb g2 hw
              have hcap : n + m ≤ c' := by omega
              refine ⟨i, .value (.slice (some ⟨q, o, none⟩) (n + m) c'), w', ?_, Le.refl i, by rw [q1, q2]; exact g4, .inl ⟨_, rfl, q, N, c', hi, rfl, hroom, hcc, hmax, hex, hnx⟩⟩
              cases d <;> first | exact Bool.noConfusion hni | simp only [Builtin.append_, Sem.run_bind, Result.andThen_ok, run_underlying hd, run_underlying hd', szOf_run hsz, List.getElem?_toArray, List.getElem?_cons_zero, List.getElem?_cons_succ, Sem.run_pure, Bool.false_eq_true, if_false, Bool.not_false, if_true, lenA_eq (P := P) hy hm w, hcap, g1, addr_add, g3]
            · cases ha
          · cases ha
        · cases ha
      · cases ha
    · cases ha
  · cases ha
/- append of so many zeros -/
theorem zeroCells_toList (zs : Array Value) (n : Nat) : (Builtin.zeroCells zs n).toList = zerosL zs (n * zs.size) := by unfold Builtin.zeroCells zerosL; simp
theorem run_append_zeros_nil (w : World) {t tn ty e : TypeId} {inf : TypeInfo} {zv : Value} {k kn : IntKind} (ht : P.underlying t = some (.slice e)) (htn : P.underlying tn = some (.int kn)) (hi : P.info? e = some inf) (hz : inf.zero = some zv) {n : Nat} (h0 : 0 < n) (hs : 0 < inf.size) (h1 : n ≤ 1048576) (h48 : n * inf.bytes ≤ 140737488355328) :
    (Builtin.append_ #[t, tn] ty #[.slice none 0 0, .int k n]).run P w = .ok (.slice (some ⟨w.heap.size, 0, none⟩) n (grownCap w n 0 e)) (w.drew.alloc (.cells (Builtin.zeroCells zv.cells n ++ Builtin.zeroCells zv.cells (grownCap w n 0 e - n)) e)) := by
  have hn : n ≠ 0 := by omega
  have hw : IntKind.i64.wrap (n : Int) = n := by rw [IntKind.wrap_i64]; omega
  have h63' : ¬ (9223372036854775807 < (n : Int)) := by omega
  have h48' : ¬ (281474976710656 < Builtin.nextslicecap n 0 * inf.bytes) := by rw [nextslicecap_zero h0]; omega
  have h48i : ¬ (281474976710656 < (n : Int) * (inf.bytes : Int)) := by
    rw [← Int.natCast_mul]
    omega
  have hneg : ¬ ((n : Int) < 0) := by omega
  have hs0 : inf.size ≠ 0 := by omega
  simp [Builtin.append_, run_underlying ht, run_underlying htn, sizeOf, typeInfo, zeroValue, hi, hz, hn, hs0, hw, h63', h48', h48i, hneg, asInt, asIntOf, Question.forced, run_firstCells_none, newRow, grownCap]
  exact fun hx => absurd hx (Nat.mul_ne_zero (by omega) hs0)
theorem run_append_zeros_grow (w : World) {t tn ty e : TypeId} {inf : TypeInfo} {zv : Value} {k kn : IntKind} (ht : P.underlying t = some (.slice e)) (htn : P.underlying tn = some (.int kn)) (hi : P.info? e = some inf) (hz : inf.zero = some zv) (b : Addr) (sLen sCap : Nat) (olds : List Value)
    (hlo : olds.length = sLen * inf.size) (holds : ∀ j v, olds[j]? = some v → w.cell? (b.add j) = some v) {n : Nat} (h0 : 0 < n) (hs : 0 < inf.size) (hg : sCap < sLen + n) (h1 : sLen + n ≤ 2097152) (hb : n * inf.bytes ≤ 140737488355328) (h48 : Builtin.nextslicecap (sLen + n) sCap * inf.bytes ≤ 281474976710656) :
    (Builtin.append_ #[t, tn] ty #[.slice (some b) sLen sCap, .int k n]).run P w = .ok (.slice (some ⟨w.heap.size, 0, none⟩) (sLen + n) (grownCap w (sLen + n) sCap e)) (w.drew.alloc (.cells (olds.toArray ++ Builtin.zeroCells zv.cells n ++ Builtin.zeroCells zv.cells (grownCap w (sLen + n) sCap e - (sLen + n))) e)) := by
  have hn : ¬ (sLen + n ≤ sCap) := by omega
  have hn0 : n ≠ 0 := by omega
  have hw : IntKind.i64.wrap (n : Int) = n := by rw [IntKind.wrap_i64]; omega
  have h63' : ¬ (9223372036854775807 < (sLen : Int) + (n : Int)) := by omega
  have h48' : ¬ (281474976710656 < Builtin.nextslicecap (sLen + n) sCap * inf.bytes) := by omega
  have h48i : ¬ (281474976710656 < (n : Int) * (inf.bytes : Int)) := by
    rw [← Int.natCast_mul]
    omega
  have hneg : ¬ ((n : Int) < 0) := by omega
  have hs0 : inf.size ≠ 0 := by omega
  have hfo := run_firstCells_some (P := P) w.drew inf.size sLen b sLen sCap olds hlo (by simpa using holds)
  simp [Builtin.append_, run_underlying ht, run_underlying htn, sizeOf, typeInfo, zeroValue, hi, hz, hn, hn0, hs0, hw, h63', h48', h48i, hneg, asInt, asIntOf, Question.forced, hfo, newRow, grownCap]
  exact fun hx => absurd hx (Nat.mul_ne_zero (by omega) hs0)
def aAppZ (P : Program) (h : Hp) (ats : List TypeId) (s x : AV) : Option (AV × Hp) :=
  match ats with
  | [t, tn] => (match P.underlying t, P.underlying tn, natOf x with
    | some (.slice e), some (.int _), some m => (match P.info? e with
      | some inf => (match inf.zero with
        | some zv => gd (Nat.blt 0 inf.size && Nat.beq zv.cells.size inf.size && Nat.ble m 1048576 && Nat.ble (m * inf.bytes) 140737488355328) (cond (Nat.beq m 0) none (match s with
          | .v (.c (.x (.slice none 0 0))) => wCels (zerosL zv.cells (m * inf.size)) fun l => (match aNew h e l with
            | some h' => wNat inf.size fun sz => some (.v (.c (.s h.n 0 m m sz false)), h')
            | none => none)
          | .v (.c (.s b o n c z ex)) => gd (Nat.beq z inf.size && ex && Nat.ble n 1048576 && Nat.ble ((n + m) * inf.bytes) 140737488355328 && Nat.blt c (n + m)) (match h.m.get b with
            | some (.c e' t1) => gd (Nat.beq e e') (match rd t1 o (n * inf.size) with
              | some old => wNat (n + m) fun nm => wCels (zerosL zv.cells (m * inf.size)) fun l => (match aNew h e (old ++ l) with | some h' => some (.v (.c (.s h.n 0 nm nm z false)), h') | none => none)
              | none => none)
            | _ => none)
          | _ => none))
        | none => none)
      | none => none)
    | _, _, _ => none)
  | _ => none
theorem aAppZ_eq (hR : Rel w0 i h.m.get h.n w) {ats : Array TypeId} {ty : TypeId} {s x y : AV} {u v : Value} {h' : Hp} (hs : AR i s u) (hx : AR i x v) (ha : aAppZ P h ats.toList s x = some (y, h')) :
    Ran P w0 (do pure (Next.value (← Builtin.append_ ats ty #[u, v]))) i w y h' := by
  unfold aAppZ at ha
  split at ha
  · rename_i t tn hats
    obtain rfl : ats = #[t, tn] := by cases ats; simp_all
    split at ha
    · rename_i e kn m hd hdn hm
      obtain ⟨kx, rfl⟩ := natOf_eq hm hx
      split at ha
      · rename_i inf hinf
        split at ha
        · rename_i zv hzv
          simp only [gd_eq, Bool.and_eq_true] at ha
          obtain ⟨⟨⟨⟨hpos, hzs⟩, hm1⟩, hby⟩, ha⟩ := ha
          have hpos := blt_of hpos
          have hzs := beq_of hzs
          have hm1 := ble_of hm1
          have hby := ble_of hby
          cases hm0 : Nat.beq m 0 with
          | true => rw [hm0] at ha; cases ha
          | false =>
            rw [hm0] at ha
            simp only [cond_false] at ha
            have hmp : 0 < m := by rcases Nat.eq_zero_or_pos m with e0 | e0
                                   · subst e0; simp at hm0
                                   · exact e0
            have hRd := hR.drew
            split at ha
            · obtain ⟨rfl, _⟩ := hs
              obtain ⟨l, ha, hl⟩ := wCels_eq ha
              split at ha
              · rename_i h1 hnew
                simp at ha
                obtain ⟨rfl, rfl⟩ := ha
                have hrun := run_append_zeros_nil (P := P) (ty := ty) (k := kx) w hd hdn hinf hzv hmp hpos hm1 hby
                have hge := grownCap_ge w m 0 e
                have hle := grownCap_le_maxLen w m 0 e (by unfold maxLen; omega)
                refine Ran.val hrun (hRd.le _) (aNew_more hRd hnew (us := zerosL zv.cells (m * inf.size)) (hl i) _ ?_) ⟨_, _, grownCap w m 0 e, put_self _ _ _, rfl, Nat.le_refl _, hge, hle, fun hh => (by cases hh), fun _ => ⟨hpos, ?_⟩⟩
                · rw [Array.toList_append, zeroCells_toList, hzs]
                  exact List.take_left' rfl
                · simp only [Array.size_append, size_zeroCells, hzs]
                  rw [← Nat.add_mul, Nat.zero_add]
                  congr 1
                  omega
              · cases ha
            · rename_i b o n c z ex
              simp only [gd_eq, Bool.and_eq_true] at ha
              obtain ⟨⟨⟨⟨⟨hz, hexx⟩, hn1⟩, hby2⟩, hroom⟩, ha⟩ := ha
              obtain ⟨k, N, c', hib, rfl, hnc, hcc, hmax, hex, hnx⟩ := hs
              have hz := beq_of hz
              subst hz
              have hn1 := ble_of hn1
              have hby2 := ble_of hby2
              have hroom := blt_of hroom
              have hcap := hex hexx
              split at ha
              · rename_i e' t1 hb
                simp only [gd_eq] at ha
                obtain ⟨hee, ha⟩ := ha
                obtain rfl := beq_of hee
                split at ha
                · rename_i old hrd
                  simp only [wNat_eq] at ha
                  obtain ⟨l, ha, hl⟩ := wCels_eq ha
                  obtain ⟨os, ho1, ho2, ho3⟩ := rd_eq (w := w) (i := i) (k := k) (fun j x hj => let ⟨u, h1, h2, _⟩ := hR.cell hb hib hj; ⟨u, h1, h2⟩) _ _ _ hrd
                  split at ha
                  · rename_i h1 hnew
                    simp at ha
                    obtain ⟨rfl, rfl⟩ := ha
                    have hrun := run_append_zeros_grow (P := P) (ty := ty) (k := kx) w hd hdn hinf hzv ⟨k, o, none⟩ n c' os ho1 (fun j v hj => by rw [addr_add]; exact ho3 j v hj) hmp hpos (by omega) (by omega) hby (growslice_fits (by omega) hby2)
                    have hge := grownCap_ge w (n + m) c' e
                    have hle := grownCap_le_maxLen w (n + m) c' e (by unfold maxLen; omega)
                    refine Ran.val hrun (hRd.le _) (aNew_more hRd hnew (us := os ++ zerosL zv.cells (m * inf.size)) (ho2.app (hl i)) _ ?_) ⟨_, _, grownCap w (n + m) c' e, put_self _ _ _, rfl, Nat.le_refl _, hge, hle, fun hh => (by cases hh), fun _ => ⟨hpos, ?_⟩⟩
                    · rw [Array.toList_append, Array.toList_append, zeroCells_toList, hzs]
                      exact List.take_left' rfl
                    · simp only [Array.size_append, List.size_toArray, size_zeroCells, hzs, ho1]
                      rw [← Nat.add_mul, ← Nat.add_mul, Nat.zero_add]
                      congr 1
                      omega
                  · cases ha
                · cases ha
              · cases ha
            · cases ha
        · cases ha
      · cases ha
    · cases ha
  · cases ha
/- a map's entry, behind a step -/
theorem LR.find {α β : Type} {R : α → β → Prop} {p : α → Bool} {q : β → Bool} (hpq : ∀ a b, R a b → p a = q b) : ∀ {l : List α} {m : List β}, LR R l m → ∀ {a : α}, l.find? p = some a → ∃ b, m.find? q = some b ∧ R a b
  | a :: l, b :: m, ⟨h1, h2⟩, x, hx => by
    rw [List.find?_cons] at hx ⊢
    rw [← hpq a b h1]
    cases hp : p a with
    | true => rw [hp] at hx; simp at hx; subst hx; exact ⟨b, rfl, h1⟩
    | false => rw [hp] at hx; exact LR.find hpq h2 hx
def aEntry (h : Hp) (x : AV) : Option AV :=
  match x with
  | .v (.c (.p r 0)) => (match h.m.get r with
    | some (.it (some m) _ seen stepped) => (match h.m.get m with
      | some (.m es clock) => gd (Nat.beq clock stepped) (match seen.getLast? with
        | some st => (match es.find? fun e => e.2.2 == st with
          | some e => (match keyV e.1 with | some k => some (.t [k, e.2.1]) | none => none)
          | none => none)
        | none => none)
      | _ => none)
    | _ => none)
  | _ => none
theorem aEntry_eq (hR : Rel w0 i h.m.get h.n w) {x y : AV} {u : Value} (hx : AR i x u) (ha : aEntry h x = some y) : ∃ v, (Instr.entry u).run P w = .ok v w ∧ AR i y v := by
  unfold aEntry at ha
  split at ha
  · rename_i r
    obtain ⟨k, N, hi, rfl⟩ := hx
    split at ha
    · rename_i m since seen stepped hb
      split at ha
      · rename_i es clock hm
        rw [gd_eq] at ha
        obtain ⟨hcl, ha⟩ := ha
        obtain rfl := beq_of hcl
        obtain ⟨ob, h1, k', rfl, q, N', hi', rfl⟩ := hR.obj _ _ k N hb hi
        obtain ⟨ob2, h4, ents, rfl, hl⟩ := hR.obj _ _ q N' hm hi'
        have hg : (getObj k).run P w = .ok (.mapIter (some q) since seen.toArray clock) w := by simp [getObj, Sem.run, h1]
        have hg2 : (getObj q).run P w = .ok (.map ents clock) w := by simp [getObj, Sem.run, h4]
        split at ha
        · rename_i st hst
          split at ha
          · rename_i e he
            split at ha
            · rename_i kv hkv
              simp at ha
              subst ha
              obtain ⟨ec, h5, h6⟩ := LR.find (q := fun x : MapEntry => x.born == st) (fun a b hab => by rw [hab.2.2]) hl he
              have hbk : seen.toArray.back? = some st := by rw [List.back?_toArray]; exact hst
              have h5' : ents.find? (fun x => x.born == st) = some ec := by rw [← Array.find?_toList]; exact h5
              refine ⟨.tuple #[ec.key, ec.val], ?_, _, rfl, by rw [h6.1]; exact keyV_eq hkv i, h6.2.1, trivial⟩
              simp [Instr.entry, hg, hg2, hbk, h5']
            · cases ha
          · cases ha
        · cases ha
      · cases ha
    · cases ha
  · cases ha
/- bytes as a string -/
def u8s : List Cel → Option (List Nat)
  | [] => some []
  | .x (.int .u8 (.ofNat n)) :: l => (match u8s l with | some m => some (n :: m) | none => none)
  | _ => none
theorem u8s_eq : ∀ {l : List Cel} {us : List Value} {m : List Nat}, LR (CR i) l us → u8s l = some m → us = (m.map Int.ofNat).map (Value.int .u8)
  | [], [], m, _, hh => by simp [u8s] at hh; subst hh; rfl
  | c :: l, u :: us, m, ⟨h1, h2⟩, hh => by
    unfold u8s at hh
    split at hh
    · rename_i hq; simp at hq
    · rename_i n l' hq
      simp at hq
      obtain ⟨rfl, rfl⟩ := hq
      split at hh
      · rename_i m' hm
        simp at hh
        subst hh
        rw [h1.1, u8s_eq h2 hm]
        rfl
      · cases hh
    · cases hh
  | [], _ :: _, _, h, _ => h.elim
  | _ :: _, [], _, h, _ => h.elim
theorem foldl_push (ns : List Nat) (acc : ByteArray) : (ns.map Int.ofNat).foldl (fun r n => r.push (UInt8.ofNat n.toNat)) acc = ⟨acc.data ++ (ns.map UInt8.ofNat).toArray⟩ := by
  induction ns generalizing acc with
  | nil => simp
  | cons n ns ih =>
    simp only [List.map_cons, List.foldl_cons]
    rw [ih]
    congr 1
    simp [ByteArray.push]
def aBytes (P : Program) (h : Hp) (src dst : TypeId) (x : AV) : Option AV :=
  match P.underlying src, P.underlying dst, x with
  | some (.slice e), some .string, .v (.c (.s b o n c z ex)) => (match P.underlying e, h.m.get b with
    | some (.int .u8), some (.c _ t) => (match rd t o n with
      | some l => (match u8s l with
        | some ns => wBytes (ns.map UInt8.ofNat) fun l => some (.v (.c (.x (.string ⟨l.toArray⟩))))
        | none => none)
      | none => none)
    | _, _ => none)
  | _, _, _ => none
theorem aBytes_eq (hR : Rel w0 i h.m.get h.n w) {src dst : TypeId} {x y : AV} {u : Value} (hx : AR i x u) (ha : aBytes P h src dst x = some y) : ∃ v, (convert src dst u).run P w = .ok v w ∧ AR i y v := by
  unfold aBytes at ha
  split at ha
  · rename_i e b o n c z ex hs hd
    obtain ⟨q, N, c', hi, rfl, _⟩ := hx
    split at ha
    · rename_i e' t he hb
      split at ha
      · rename_i l hrd
        split at ha
        · rename_i ns hns
          simp at ha
          subst ha
          obtain ⟨us, g1, g2, g3⟩ := rd_eq (w := w) (i := i) (k := q) (fun j x hj => let ⟨u, h1, h2, _⟩ := hR.cell hb hi hj; ⟨u, h1, h2⟩) _ _ _ hrd
          have hus := u8s_eq g2 hns
          have hload := run_loadCells_list (P := P) w ⟨q, o, none⟩ us (fun j v hj => by rw [addr_add]; exact g3 j v hj)
          rw [g1, hus] at hload
          refine ⟨_, by rw [run_convert_bytes_string w src dst e _ n c' hs he hd]; exact run_bytesToString w _ n c' _ hload, ?_⟩
          rw [foldl_push]
          refine ⟨?_, rfl⟩
          congr 2
          simp [ByteArray.empty, ByteArray.emptyWithCapacity]
          rfl
        · cases ha
      · cases ha
    · cases ha
  · cases ha
/- an address as unsafe.Pointer -/
def aUnsafe (P : Program) (h : Hp) (src dst : TypeId) (x : AV) : Option AV :=
  match P.underlying src, P.underlying dst, x with
  | some (.pointer t), some .unsafePointer, .v (.c (.p b o)) => (match szOf P t, h.m.get b with
    | some n, some (.c _ tr) => gd (Nat.blt 0 n) (match tr.get o with | some _ => some (.v (.c (.p b o))) | none => none)
    | _, _ => none)
  | _, _, _ => none
theorem aUnsafe_eq (hR : Rel w0 i h.m.get h.n w) {src dst : TypeId} {x y : AV} {u : Value} (hx : AR i x u) (ha : aUnsafe P h src dst x = some y) : ∃ v, (convert src dst u).run P w = .ok v w ∧ AR i y v := by
  unfold aUnsafe at ha
  split at ha
  · rename_i t b o hs hd
    obtain ⟨q, N, hi, rfl⟩ := hx
    split at ha
    · rename_i n e tr hn hb
      rw [gd_eq] at ha
      obtain ⟨h0, ha⟩ := ha
      split at ha
      · rename_i c hc
        simp at ha
        subst ha
        obtain ⟨v, h1, _, _⟩ := hR.cell hb hi hc
        obtain ⟨inf, h2, h3⟩ := szOf_eq hn
        have h0 := blt_of h0
        have hne : ¬ inf.size = 0 := by omega
        exact ⟨_, run_convert_to_unsafe hs hd (by simp [h2, hne]) h1, q, N, hi, rfl⟩
      · cases ha
    · cases ha
  · cases ha
/- clear, of a slice -/
def aClear (P : Program) (h : Hp) (ats : List TypeId) (x : AV) : Option Hp :=
  match ats with
  | t :: _ => (match P.underlying t, x with
    | some (.slice e), .v (.c (.s b o (n + 1) c z ex)) => (match zeroOf P e, h.m.get b with
      | some zv, some (.c e' tr) => wCels (Builtin.zeroCells zv.cells (n + 1)).toList fun l => (match wr tr o l with
        | some tr' => setH h b (.c e' tr')
        | none => none)
      | _, _ => none)
    | some (.slice _), .v (.c (.s _ _ 0 _ _ _)) => some h
    | some (.slice _), .v (.c (.x (.slice none _ _))) => some h
    | some (.map _ _), .v (.c (.m b)) => (match h.m.get b with | some (.m _ c) => setH h b (.m [] c) | _ => none)
    | _, _ => none)
  | _ => none
theorem aClear_eq (hR : Rel w0 i h.m.get h.n w) {ats : Array TypeId} {ty : TypeId} {x : AV} {u : Value} {h' : Hp} (hx : AR i x u) (ha : aClear P h ats.toList x = some h') :
    ∃ w', (Builtin.clear_ ats ty #[u]).run P w = .ok (.tuple #[]) w' ∧ Rel w0 i h'.m.get h'.n w' := by
  unfold aClear at ha
  split at ha
  · rename_i t rest hats
    have h0 : ats[0]? = some t := by cases ats; simp_all
    split at ha
    · rename_i e b o n c z ex hd
      obtain ⟨q, N, c', hi, rfl, _⟩ := hx
      split at ha
      · rename_i zv e' tr hz hb
        obtain ⟨l, ha, hl⟩ := wCels_eq ha
        split at ha
        · rename_i tr' hw
          obtain ⟨q1, q2⟩ := setH_eq ha
          obtain ⟨w', g3, g4⟩ := wr_eq (P := P) hi l _ 0 o _ w tr tr' hR hb (hl i) hw
          exact ⟨w', by simp [Builtin.clear_, h0, run_underlying hd, zeroOf_run hz, g3], by rw [q1, q2]; exact g4⟩
        · cases ha
      · cases ha
    · rename_i e b o c z ex hd
      simp at ha
      subst ha
      obtain ⟨q, N, c', hi, rfl, _⟩ := hx
      exact ⟨w, by simp [Builtin.clear_, h0, run_underlying hd], hR⟩
    · rename_i e a b hd
      simp at ha
      subst ha
      obtain ⟨rfl, _⟩ := hx
      exact ⟨w, by simp [Builtin.clear_, h0, run_underlying hd], hR⟩
    · rename_i kt et b hd
      split at ha
      · rename_i es c hb
        obtain ⟨q1, q2⟩ := setH_eq ha
        obtain ⟨q, N, hi, rfl⟩ := hx
        obtain ⟨ob, h1, ents, rfl, hl⟩ := hR.obj b _ q N hb hi
        have hg : (getObj q).run P w = .ok (.map ents c) w := by simp [getObj, Sem.run, h1]
        have hset := run_setObj' (P := P) (w := w) (k := q) (o := .map ents c) (ob := .map #[] c) h1 (by simp)
        exact ⟨{ w with heap := w.heap.setIfInBounds q (.map #[] c) }, by simp [Builtin.clear_, h0, run_underlying hd, hg, hset], by rw [q1, q2]; exact hR.setObj hb (by simp) hi ⟨#[], rfl, trivial⟩⟩
      · cases ha
    · cases ha
  · cases ha
end
end R
end Go.Proofs.YtcccdlmngddalaaGreat
