/- A run's operations, one by one: addresses, slices, parts, comparisons with nil, append. -/
import Derived.Test.YtcccdlmngddalaaGreatRun3
set_option linter.unusedVariables false
set_option linter.unusedSimpArgs false
set_option linter.unusedSectionVars false
namespace Go.Proofs.YtcccdlmngddalaaGreat
open Go.RowKit
namespace R
variable [vl : Val]
section
variable {P : Program} {w0 : Base} {i : Inj} {h : Hp} {w : World}
def natOf : AV → Option Nat
  | .v (.c (.x (.int _ (.ofNat j)))) => some j
  | _ => none
theorem natOf_eq {x : AV} {j : Nat} {u : Value} (hx : natOf x = some j) (g : AR i x u) : ∃ k, u = .int k (j : Int) := by
  unfold natOf at hx
  split at hx
  · rename_i k m
    simp at hx
    subst hx
    exact ⟨k, g.1⟩
  · cases hx
def aFieldAddr (P : Program) (s : TypeId) (b o f : Nat) : Option AV :=
  match P.underlying s with
  | some (.struct fs) => (match fs[f]? with
    | some fl => (match szOf P fl.type with
      | some n => gd (Nat.blt 0 n) (wNat (o + fl.offset) fun m => some (.v (.c (.p b m))))
      | none => none)
    | none => none)
  | _ => none
theorem aFieldAddr_eq {s : TypeId} {b o f k N : Nat} {x : AV} (hi : i b = some (k, N)) (ha : aFieldAddr P s b o f = some x) : ∃ u, (∀ w, (Instr.fieldAt s (.pointer (some ⟨k, o, none⟩)) f).run P w = .ok u w) ∧ AR i x u := by
  unfold aFieldAddr at ha
  split at ha
  · rename_i fs hd
    split at ha
    · rename_i fl hf
      split at ha
      · rename_i n hn
        simp only [gd_eq, wNat_eq] at ha
        obtain ⟨h0, ha⟩ := ha
        simp at ha
        subst ha
        have h0' : n ≠ 0 := by have : 0 < n := by simpa [Nat.blt_eq] using h0
                               omega
        refine ⟨.pointer (some ⟨k, o + fl.offset, none⟩), fun w => ?_, k, N, hi, rfl⟩
        simp [Instr.fieldAt, run_underlying hd, hf, Instr.sureAddr, fieldPlace, szOf_run hn, h0', addr_add]
      · cases ha
    · cases ha
  · cases ha
def aIndexAddr (P : Program) (t : TypeId) (x : AV) (j : Nat) : Option AV :=
  match P.underlying t, x with
  | some (.slice e), .v (.c (.s b o n c z ex)) => (match szOf P e with
    | some sz => gd (Nat.blt j n) (wNat (o + j * sz) fun m => some (.v (.c (.p b m))))
    | none => none)
  | some (.array n e), .v (.c (.p b o)) => (match szOf P e with
    | some sz => gd (Nat.blt j n) (wNat (o + j * sz) fun m => some (.v (.c (.p b m))))
    | none => none)
  | _, _ => none
theorem aIndexAddr_eq {t : TypeId} {x y : AV} {j : Nat} {u : Value} {q : IntKind} (hx : AR i x u) (ha : aIndexAddr P t x j = some y) : ∃ v, (∀ w, (Instr.indexAt t u (.int q (j : Int))).run P w = .ok v w) ∧ AR i y v := by
  unfold aIndexAddr at ha
  split at ha
  · rename_i e b o n c z ex hd
    split at ha
    · rename_i sz hn
      simp only [gd_eq, wNat_eq] at ha
      obtain ⟨h0, ha⟩ := ha
      simp at ha
      subst ha
      have h0' : j < n := by simpa [Nat.blt_eq] using h0
      obtain ⟨k, N, c', hi, rfl, _⟩ := hx
      refine ⟨.pointer (some ⟨k, o + j * sz, none⟩), fun w => ?_, k, N, hi, rfl⟩
      simp [Instr.indexAt, asIntOf, run_underlying hd, szOf_run hn, h0', addr_add]
    · cases ha
  · rename_i n e b o hd
    split at ha
    · rename_i sz hn
      simp only [gd_eq, wNat_eq] at ha
      obtain ⟨h0, ha⟩ := ha
      simp at ha
      subst ha
      have h0' : j < n := by simpa [Nat.blt_eq] using h0
      obtain ⟨k, N, hi, rfl⟩ := hx
      refine ⟨.pointer (some ⟨k, o + j * sz, none⟩), fun w => ?_, k, N, hi, rfl⟩
      simp [Instr.indexAt, asIntOf, run_underlying hd, Instr.sureAddr, szOf_run hn, h0', addr_add]
    · cases ha
  · cases ha
/- parts of an aggregate -/
def aPart (P : Program) (t : TypeId) (l : List Cel) (o : Nat) : Option AV :=
  match aggSz P t with
  | some (some n) => wList ((l.drop o).take n) fun m => some (.v (.a m))
  | some none => (match l[o]? with | some c => some (.v (.c c)) | none => none)
  | none => none
theorem aPart_eq {t : TypeId} {l : List Cel} {us : Array Value} {o : Nat} {x : AV} (hl : LR (CR i) l us.toList) (ha : aPart P t l o = some x) : ∃ v, (∀ w, (part t us o).run P w = .ok v w) ∧ AR i x v := by
  unfold aPart at ha
  split at ha
  · rename_i n hn
    simp at ha
    subst ha
    refine ⟨.agg (us.extract o (o + n)), fun w => by obtain ⟨a1, a2⟩ := aggSz_some hn w; simp [part, a1, a2], _, rfl, ?_⟩
    have : (us.extract o (o + n)).toList = (us.toList.drop o).take n := by
      rw [Array.toList_extract, List.extract_eq_take_drop]
      congr 1
      omega
    rw [this]
    exact (hl.drop o).take n
  · rename_i hn
    split at ha
    · rename_i c hc
      simp at ha
      subst ha
      obtain ⟨u, h1, h2⟩ := hl.get o c hc
      refine ⟨u, fun w => ?_, h2⟩
      have h1' : us[o]? = some u := by simpa using h1
      simp [part, aggSz_none hn w, h1']
    · cases ha
  · cases ha
def aField (P : Program) (t : TypeId) (x : AV) (f : Nat) : Option AV :=
  match P.underlying t, x with
  | some (.struct fs), .v (.a l) => (match fs[f]? with | some fl => aPart P fl.type l fl.offset | none => none)
  | _, _ => none
theorem aField_eq {t : TypeId} {x y : AV} {f : Nat} {u : Value} (hx : AR i x u) (ha : aField P t x f = some y) : ∃ v, (∀ w, (Instr.field t u f).run P w = .ok v w) ∧ AR i y v := by
  unfold aField at ha
  split at ha
  · rename_i fs l hd
    split at ha
    · rename_i fl hf
      obtain ⟨us, rfl, hl⟩ := hx
      obtain ⟨v, h1, h2⟩ := aPart_eq hl ha
      exact ⟨v, fun w => by simp [Instr.field, run_underlying hd, hf, asAgg, h1], h2⟩
    · cases ha
  · cases ha
def aIndex (P : Program) (t : TypeId) (x : AV) (j : Nat) : Option AV :=
  match P.underlying t, x with
  | some (.array n e), .v (.a l) => (match szOf P e with | some sz => gd (Nat.blt j n) (aPart P e l (j * sz)) | none => none)
  | _, _ => none
theorem aIndex_eq {t : TypeId} {x y : AV} {j : Nat} {u : Value} {q : IntKind} (hx : AR i x u) (ha : aIndex P t x j = some y) : ∃ v, (∀ w, (Instr.index t u (.int q (j : Int))).run P w = .ok v w) ∧ AR i y v := by
  unfold aIndex at ha
  split at ha
  · rename_i n e l hd
    split at ha
    · rename_i sz hn
      simp only [gd_eq] at ha
      obtain ⟨h0, ha⟩ := ha
      have h0' : j < n := by simpa [Nat.blt_eq] using h0
      obtain ⟨us, rfl, hl⟩ := hx
      obtain ⟨v, h1, h2⟩ := aPart_eq hl ha
      exact ⟨v, fun w => by simp [Instr.index, asIntOf, run_underlying hd, h0', szOf_run hn, h1], h2⟩
    · cases ha
  · cases ha
def v1 : V1 → AV := .v
def aExtract (x : AV) (j : Nat) : Option AV :=
  match x with
  | .t l => (match l[j]? with | some y => some (.v y) | none => none)
  | _ => none
theorem aExtract_eq {x y : AV} {j : Nat} {u : Value} (hx : AR i x u) (ha : aExtract x j = some y) : ∃ v, (∀ w, (Instr.extract u j).run P w = .ok v w) ∧ AR i y v := by
  unfold aExtract at ha
  split at ha
  · rename_i l
    split at ha
    · rename_i z hz
      simp at ha
      subst ha
      obtain ⟨us, rfl, hl⟩ := hx
      obtain ⟨v, h1, h2⟩ := hl.get j z hz
      have h1' : us[j]? = some v := by simpa using h1
      exact ⟨v, fun w => by simp [Instr.extract, h1'], h2⟩
    · cases ha
  · cases ha
/- slices of slices -/
def optNat (d : Nat) : Option AV → Option Nat
  | none => some d
  | some x => natOf x
def aSlice (P : Program) (t : TypeId) (x : AV) (lo hi mx : Option AV) : Option AV :=
  match P.underlying t, x with
  | some (.slice e), .v (.c (.s b o n c z ex)) => (match szOf P e, optNat 0 lo, optNat n hi, mx with
    | some sz, some l, some r, none => gd (Nat.ble l r) (gd (Nat.ble r c) (cond (Nat.blt l c)
        (wNat (o + l * sz) fun o' => wNat (r - l) fun n' => wNat (c - l) fun c' => gd (cond ex true (Nat.beq sz z)) (some (.v (.c (.s b o' n' c' z ex)))))
        (gd ex (gd (Nat.beq l c) (some (.v (.c (.s b o 0 0 z true))))))))
    | some sz, some l, some r, some mv => (match hi, natOf mv with
      | some _, some m => gd (Nat.ble l r) (gd (Nat.ble r m) (gd (Nat.ble m c) (cond (Nat.blt l m)
          (wNat (o + l * sz) fun o' => wNat (r - l) fun n' => wNat (m - l) fun c' => some (.v (.c (.s b o' n' c' z true))))
          (some (.v (.c (.s b o 0 0 z true)))))))
      | _, _ => none)
    | _, _, _, _ => none)
  | some (.array len e), .v (.c (.p b o)) => (match szOf P e, optNat 0 lo, optNat len hi, mx with
    | some sz, some l, some r, none => gd (Nat.ble len 1048576) (gd (Nat.ble l r) (gd (Nat.ble r len) (gd (Nat.blt l len)
        (wNat (o + l * sz) fun o' => wNat (r - l) fun n' => wNat (len - l) fun c' => some (.v (.c (.s b o' n' c' sz true)))))))
    | _, _, _, _ => none)
  | _, _ => none
theorem optNat_eq {d n : Nat} {x : Option AV} (hx : optNat d x = some n) {u : Option Value} (hu : ∀ y, x = some y → ∃ v, u = some v ∧ AR i y v) (hn : x = none → u = none) : (u = none ∧ n = d) ∨ ∃ k, u = some (.int k (n : Int)) := by
  cases x with
  | none => simp [optNat] at hx; exact .inl ⟨hn rfl, hx.symm⟩
  | some y =>
    obtain ⟨v, rfl, hv⟩ := hu y rfl
    obtain ⟨k, rfl⟩ := natOf_eq hx hv
    exact .inr ⟨k, rfl⟩
theorem run_bound (k : IntKind) (j n : Nat) (code : BoundsCode) (hj : j ≤ n) : (Instr.sliceBound (.int k (j : Int)) n code).run P w = .ok j w := by
  simp [Instr.sliceBound, asIntOf, hj]
theorem run_bounds (is : Bool) {lo hi : Option Value} {l r n cap : Nat} (hl : (lo = none ∧ l = 0) ∨ ∃ k, lo = some (.int k (l : Int))) (hr : (hi = none ∧ r = n) ∨ ∃ k, hi = some (.int k (r : Int))) (h1 : l ≤ r) (h2 : r ≤ cap) :
    (Instr.sliceBounds is n cap lo hi none).run P w = .ok (l, r, cap) w := by
  rcases hl with ⟨rfl, rfl⟩ | ⟨k, rfl⟩ <;> rcases hr with ⟨rfl, rfl⟩ | ⟨k', rfl⟩ <;> simp [Instr.sliceBounds, run_bound _ _ _ _ h1, run_bound _ _ _ _ h2]
theorem run_bounds3 {lo : Option Value} {k3 : IntKind} {l r n m cap : Nat} {hi : Option Value} (hl : (lo = none ∧ l = 0) ∨ ∃ k, lo = some (.int k (l : Int))) (hr : ∃ k, hi = some (.int k (r : Int))) (h1 : l ≤ r) (h2 : r ≤ m) (h3 : m ≤ cap) :
    (Instr.sliceBounds true n cap lo hi (some (.int k3 (m : Int)))).run P w = .ok (l, r, m) w := by
  obtain ⟨k', rfl⟩ := hr
  rcases hl with ⟨rfl, rfl⟩ | ⟨k, rfl⟩ <;> simp [Instr.sliceBounds, run_bound _ _ _ _ h1, run_bound _ _ _ _ h2, run_bound _ _ _ _ h3]
theorem ble_of {a b : Nat} (hb : Nat.ble a b = true) : a ≤ b := Nat.le_of_ble_eq_true hb
theorem blt_of {a b : Nat} (hb : Nat.blt a b = true) : a < b := by simpa [Nat.blt_eq] using hb
theorem beq_of {a b : Nat} (hb : Nat.beq a b = true) : a = b := Nat.eq_of_beq_eq_true hb
theorem aSlice_eq {t : TypeId} {x y : AV} {lo hi mx : Option AV} {u : Value} {lo' hi' mx' : Option Value} (hx : AR i x u)
    (hlo : ∀ y, lo = some y → ∃ v, lo' = some v ∧ AR i y v) (hlo0 : lo = none → lo' = none) (hhi : ∀ y, hi = some y → ∃ v, hi' = some v ∧ AR i y v) (hhi0 : hi = none → hi' = none) (hmx : ∀ y, mx = some y → ∃ v, mx' = some v ∧ AR i y v) (hmx0 : mx = none → mx' = none)
    (ha : aSlice P t x lo hi mx = some y) : ∃ v, (∀ w, (Instr.sliceAt t u lo' hi' mx').run P w = .ok v w) ∧ AR i y v := by
  unfold aSlice at ha
  split at ha
  · rename_i e b o n c z ex hd
    obtain ⟨k, N, c', hib, rfl, hnc, hcc, hmax, hex, hnx⟩ := hx
    split at ha
    · rename_i sz l r hsz hl hr
      have hl' := optNat_eq hl hlo hlo0
      have hr' := optNat_eq hr hhi hhi0
      rw [hmx0 rfl]
      simp only [gd_eq, wNat_eq] at ha
      obtain ⟨h1, h2, ha⟩ := ha
      have h1 := ble_of h1
      have h2 := ble_of h2
      have hb := fun w => run_bounds (P := P) (w := w) true (n := n) (cap := c') hl' hr' h1 (Nat.le_trans h2 hcc)
      cases hlt : Nat.blt l c with
      | true =>
        have hlt' := blt_of hlt
        rw [hlt] at ha
        simp only [cond_true, gd_eq, wNat_eq] at ha
        obtain ⟨h3, ha⟩ := ha
        simp at ha
        subst ha
        refine ⟨.slice (some ⟨k, o + l * sz, none⟩) (r - l) (c' - l), fun w => ?_, k, N, c' - l, hib, rfl, by omega, by omega, by omega, fun hh => by have := hex hh; omega, fun hh => ?_⟩
        · have hne : ¬ (c' = l) := by omega
          simp [Instr.sliceAt, Instr.slice, run_underlying hd, hb, szOf_run hsz, hne, addr_add]
        · subst hh
          have hz : sz = z := beq_of h3
          subst hz
          have := hnx rfl
          refine ⟨this.1, ?_⟩
          rw [this.2, Nat.sub_mul, Nat.add_assoc, ← Nat.add_sub_assoc (Nat.mul_le_mul_right _ (by omega)), Nat.add_sub_cancel_left]
      | false =>
        rw [hlt] at ha
        simp only [cond_false, gd_eq] at ha
        obtain ⟨h3, h4, ha⟩ := ha
        simp at ha
        subst ha
        have h4 := beq_of h4
        have h5 := hex h3
        refine ⟨.slice (some ⟨k, o, none⟩) 0 0, fun w => ?_, k, N, 0, hib, rfl, Nat.le_refl _, Nat.le_refl _, by omega, fun _ => rfl, fun hh => (by cases hh)⟩
        have e1 : c' = l := by omega
        have e2 : r - l = 0 := by omega
        have e3 : c' - l = 0 := by omega
        simp only [Instr.sliceAt, Instr.slice, run_underlying hd, hb, szOf_run hsz, Sem.run_bind, Result.andThen_ok, Sem.run_pure, e2, e3, if_pos e1]
    · rename_i sz l r mv hsz hl hr
      split at ha
      · rename_i hiv m hm
        have hl' := optNat_eq hl hlo hlo0
        obtain ⟨mv', rfl, hmv⟩ := hmx mv rfl
        obtain ⟨k3, rfl⟩ := natOf_eq hm hmv
        simp only [gd_eq, wNat_eq] at ha
        obtain ⟨h1, h2, h3, ha⟩ := ha
        have h1 := ble_of h1
        have h2 := ble_of h2
        have h3 := ble_of h3
        rcases optNat_eq hr hhi hhi0 with ⟨q1, q2⟩ | hr'
        · obtain ⟨v, hv, _⟩ := hhi _ rfl; rw [hv] at q1; cases q1
        have hb := fun w => run_bounds3 (P := P) (w := w) (n := n) (cap := c') (k3 := k3) hl' hr' h1 h2 (Nat.le_trans h3 hcc)
        cases hlt : Nat.blt l m with
        | true =>
          have hlt' := blt_of hlt
          rw [hlt] at ha
          simp at ha
          subst ha
          refine ⟨.slice (some ⟨k, o + l * sz, none⟩) (r - l) (m - l), fun w => ?_, k, N, m - l, hib, rfl, by omega, by omega, by omega, fun _ => rfl, fun hh => (by cases hh)⟩
          have hne : ¬ (m = l) := by omega
          simp [Instr.sliceAt, Instr.slice, run_underlying hd, hb, szOf_run hsz, hne, addr_add]
        | false =>
          have hlt' : ¬ l < m := fun hh => by have : Nat.blt l m = true := by simpa [Nat.blt_eq] using hh
                                              rw [this] at hlt; cases hlt
          rw [hlt] at ha
          simp at ha
          subst ha
          refine ⟨.slice (some ⟨k, o, none⟩) 0 0, fun w => ?_, k, N, 0, hib, rfl, Nat.le_refl _, Nat.le_refl _, by omega, fun _ => rfl, fun hh => (by cases hh)⟩
          have e1 : m = l := by omega
          have e2 : r - l = 0 := by omega
          have e3 : m - l = 0 := by omega
          simp only [Instr.sliceAt, Instr.slice, run_underlying hd, hb, szOf_run hsz, Sem.run_bind, Result.andThen_ok, Sem.run_pure, e2, e3, if_pos e1]
      · cases ha
    · cases ha
  · rename_i len e b o hd
    obtain ⟨k, N, hib, rfl⟩ := hx
    split at ha
    · rename_i sz l r hsz hl hr
      have hl' := optNat_eq hl hlo hlo0
      have hr' := optNat_eq hr hhi hhi0
      rw [hmx0 rfl]
      simp only [gd_eq, wNat_eq] at ha
      obtain ⟨h0, h1, h2, h3, ha⟩ := ha
      have h0 := ble_of h0
      have h1 := ble_of h1
      have h2 := ble_of h2
      have h3 := blt_of h3
      simp at ha
      subst ha
      have hb := fun w => run_bounds (P := P) (w := w) false (n := len) (cap := len) hl' hr' h1 h2
      refine ⟨.slice (some ⟨k, o + l * sz, none⟩) (r - l) (len - l), fun w => ?_, k, N, len - l, hib, rfl, by omega, by omega, by unfold maxLen; omega, fun _ => rfl, fun hh => (by cases hh)⟩
      have hne : ¬ (len = l) := by omega
      simp [Instr.sliceAt, run_underlying hd, Instr.sureAddr, hb, szOf_run hsz, hne, addr_add]
    · cases ha
  · cases ha
/- comparisons with nil -/
def aNil (P : Program) (t : TypeId) (x y : AV) : Option Bool :=
  match P.underlying t, x, y with
  | some (.pointer _), .v (.c (.p _ _)), .v (.c (.x (.pointer none))) => some false
  | some (.pointer _), .v (.c (.x (.pointer none))), .v (.c (.p _ _)) => some false
  | some (.slice _), .v (.c (.s _ _ _ _ _ _)), .v (.c (.x (.slice none _ _))) => some false
  | some (.slice _), .v (.c (.x (.slice none _ _))), .v (.c (.s _ _ _ _ _ _)) => some false
  | some (.map _ _), .v (.c (.m _)), .v (.c (.x (.map none))) => some false
  | some (.map _ _), .v (.c (.x (.map none))), .v (.c (.m _)) => some false
  | some (.func _ _ _), .v (.c (.f _ _ _)), .v (.c (.x .nilFunc)) => some false
  | some (.func _ _ _), .v (.c (.x .nilFunc)), .v (.c (.f _ _ _)) => some false
  | some (.pointer e), .v (.c (.p b o)), .v (.c (.p b' o')) => (match szOf P e with
    | some n => gd (Nat.blt 0 n) (gd (Nat.beq b b') (cond (Nat.beq o o') (some true) (some false)))
    | none => none)
  | _, _, _ => none
theorem eql_of {t : TypeId} {u v : Value} {r : Bool} (h1 : ∀ d, (Op.equalIn (d + 1) t u v).run P w = .ok r w) (h2 : binOp .eql t u v = (do pure (Value.bool (← Op.equal t u v)))) (h3 : binOp .neq t u v = (do pure (Value.bool (!(← Op.equal t u v))))) :
    (binOp .eql t u v).run P w = .ok (.bool r) w ∧ (binOp .neq t u v).run P w = .ok (.bool !r) w := by
  have h1' : (Op.equal t u v).run P w = .ok r w := h1 9999
  rw [h2, h3]
  simp [h1']
theorem nil_fin {t : TypeId} {u v : Value} {r : Bool} (h1 : ∀ d, (Op.equalIn (d + 1) t u v).run P w = .ok r w) (h2 : binOp .eql t u v = (do pure (Value.bool (← Op.equal t u v)))) (h3 : binOp .neq t u v = (do pure (Value.bool (!(← Op.equal t u v)))))
    (h4 : ∀ op a b, (eqGuard op t a b u v).run P w = .ok () w) : (binOp .eql t u v).run P w = .ok (.bool r) w ∧ (binOp .neq t u v).run P w = .ok (.bool !r) w ∧ ∀ op a b, (eqGuard op t a b u v).run P w = .ok () w := ⟨(eql_of h1 h2 h3).1, (eql_of h1 h2 h3).2, h4⟩
theorem aNil_eq {t : TypeId} {x y : AV} {u v : Value} {r : Bool} (hx : AR i x u) (hy : AR i y v) (ha : aNil P t x y = some r) : ∀ w, (binOp .eql t u v).run P w = .ok (.bool r) w ∧ (binOp .neq t u v).run P w = .ok (.bool !r) w ∧ ∀ op a b, (eqGuard op t a b u v).run P w = .ok () w := by
  intro w
  unfold aNil at ha
  split at ha
  · rename_i b o hd
    obtain ⟨k, N, hi, rfl⟩ := hx
    obtain ⟨rfl, _⟩ := hy
    simp at ha; subst ha
    refine nil_fin (fun d => ?_) rfl rfl (fun op a b => by cases op <;> rfl)
    simp only [Op.equalIn, Sem.run_bind, run_underlying hd, Result.andThen_ok]
    rfl
  · rename_i b o hd
    obtain ⟨k, N, hi, rfl⟩ := hy
    obtain ⟨rfl, _⟩ := hx
    simp at ha; subst ha
    refine nil_fin (fun d => ?_) rfl rfl (fun op a b => by cases op <;> rfl)
    simp only [Op.equalIn, Sem.run_bind, run_underlying hd, Result.andThen_ok]
    rfl
  · rename_i hd
    obtain ⟨k, N, c', hi, rfl, _⟩ := hx
    obtain ⟨rfl, _⟩ := hy
    simp at ha; subst ha
    refine nil_fin (fun d => ?_) rfl rfl (fun op a b => by cases op <;> rfl)
    simp only [Op.equalIn, Sem.run_bind, run_underlying hd, Result.andThen_ok]
    rfl
  · rename_i hd
    obtain ⟨k, N, c', hi, rfl, _⟩ := hy
    obtain ⟨rfl, _⟩ := hx
    simp at ha; subst ha
    refine nil_fin (fun d => ?_) rfl rfl (fun op a b => by cases op <;> rfl)
    simp only [Op.equalIn, Sem.run_bind, run_underlying hd, Result.andThen_ok]
    rfl
  · rename_i hd
    obtain ⟨k, N, hi, rfl⟩ := hx
    obtain ⟨rfl, _⟩ := hy
    simp at ha; subst ha
    refine nil_fin (fun d => ?_) rfl rfl (fun op a b => by cases op <;> rfl)
    simp only [Op.equalIn, Sem.run_bind, run_underlying hd, Result.andThen_ok]
    rfl
  · rename_i hd
    obtain ⟨k, N, hi, rfl⟩ := hy
    obtain ⟨rfl, _⟩ := hx
    simp at ha; subst ha
    refine nil_fin (fun d => ?_) rfl rfl (fun op a b => by cases op <;> rfl)
    simp only [Op.equalIn, Sem.run_bind, run_underlying hd, Result.andThen_ok]
    rfl
  · rename_i hd
    obtain ⟨_, us, rfl, _⟩ := hx
    obtain ⟨rfl, _⟩ := hy
    simp at ha; subst ha
    refine nil_fin (fun d => ?_) rfl rfl (fun op a b => by cases op <;> rfl)
    simp only [Op.equalIn, Sem.run_bind, run_underlying hd, Result.andThen_ok]
    rfl
  · rename_i hd
    obtain ⟨_, us, rfl, _⟩ := hy
    obtain ⟨rfl, _⟩ := hx
    simp at ha; subst ha
    refine nil_fin (fun d => ?_) rfl rfl (fun op a b => by cases op <;> rfl)
    simp only [Op.equalIn, Sem.run_bind, run_underlying hd, Result.andThen_ok]
    rfl
  · rename_i e b o b' o' hd
    split at ha
    · rename_i n hn
      simp only [gd_eq] at ha
      obtain ⟨h0, h1, ha⟩ := ha
      have h0 := blt_of h0
      have h0' : n ≠ 0 := by omega
      have h1 := beq_of h1
      subst h1
      obtain ⟨k, N, hi, rfl⟩ := hx
      obtain ⟨k', N', hi', rfl⟩ := hy
      rw [hi] at hi'
      simp at hi'
      obtain ⟨rfl, rfl⟩ := hi'
      have hr : r = decide (o = o') := by
        by_cases e : o = o'
        · rw [beq_tt e] at ha; simp at ha; simp [← ha, e]
        · rw [beq_ff e] at ha; simp at ha; simp [← ha, e]
      subst hr
      have hs : (sameAddr ⟨k, o, none⟩ ⟨k, o', none⟩).run P w = .ok (decide (o = o')) w := by
        simp only [sameAddr, beq_self_eq_true, if_true, Sem.run_pure]
        congr 1
        by_cases e : o = o' <;> simp [e]
      refine nil_fin (fun d => ?_) rfl rfl (fun op a b => by cases op <;> rfl)
      simp only [Op.equalIn, Sem.run_bind, run_underlying hd, Result.andThen_ok, szOf_run hn, if_pos h0', hs]
    · cases ha
  · cases ha
end
end R
end Go.Proofs.YtcccdlmngddalaaGreat
