/- A run's operations, and that they do in the world what they do in the run's memory. -/
import Derived.Test.YtcccdlmngddalaaGreatRun
set_option linter.unusedVariables false
set_option linter.unusedSimpArgs false
set_option linter.unusedSectionVars false
namespace Go.Proofs.YtcccdlmngddalaaGreat
open Go.RowKit
namespace R
variable [vl : Val]
structure Hp where
  m : Tri AO
  n : Nat
/- values in full -/
def gd {β : Type} (b : Bool) (k : Option β) : Option β := cond b k none
theorem gd_eq {β : Type} {b : Bool} {k : Option β} {r : β} : gd b k = some r ↔ b = true ∧ k = some r := by cases b <;> simp [gd]
def wNat {β : Type} (n : Nat) (k : Nat → Option β) : Option β := match n with | 0 => k 0 | m + 1 => k (m + 1)
@[simp] theorem wNat_eq {β : Type} (n : Nat) (k : Nat → Option β) : wNat n k = k n := by cases n <;> rfl
def wInt {β : Type} (n : Int) (k : Int → Option β) : Option β := match n with | .ofNat m => wNat m fun m => k (.ofNat m) | .negSucc m => wNat m fun m => k (.negSucc m)
@[simp] theorem wInt_eq {β : Type} (n : Int) (k : Int → Option β) : wInt n k = k n := by cases n <;> simp [wInt]
def wList {α β : Type} : List α → (List α → Option β) → Option β
  | [], k => k []
  | a :: l, k => wList l fun l' => k (a :: l')
@[simp] theorem wList_eq {α β : Type} (l : List α) (k : List α → Option β) : wList l k = k l := by induction l generalizing k <;> simp_all [wList]
def wBytes {β : Type} : List UInt8 → (List UInt8 → Option β) → Option β
  | [], k => k []
  | a :: l, k => wNat a.toNat fun m => wBytes l fun l' => k (UInt8.ofNat m :: l')
@[simp] theorem wBytes_eq {β : Type} (l : List UInt8) (k : List UInt8 → Option β) : wBytes l k = k l := by induction l generalizing k <;> simp_all [wBytes]
def wVal {β : Type} (v : Value) (k : Value → Option β) : Option β :=
  match v with
  | .int q n => wInt n fun n => k (.int q n)
  | .bool b => cond b (k (.bool true)) (k (.bool false))
  | .string s => wBytes s.data.toList fun l => k (.string ⟨l.toArray⟩)
  | v => k v
@[simp] theorem wVal_eq {β : Type} (v : Value) (k : Value → Option β) : wVal v k = k v := by
  cases v with
  | bool b => cases b <;> rfl
  | _ => simp [wVal]
def wCels {β : Type} : List Value → (List Cel → Option β) → Option β
  | [], k => k []
  | v :: l, k => gd v.oneCell' (wVal v fun v => wCels l fun l' => k (.x v :: l'))
theorem wCels_eq {β : Type} : ∀ {l : List Value} {k : List Cel → Option β} {r : β}, wCels l k = some r → ∃ cs, k cs = some r ∧ ∀ i, LR (CR i) cs l
  | [], k, r, h => ⟨[], h, fun _ => trivial⟩
  | v :: l, k, r, h => by
    simp only [wCels, gd_eq, wVal_eq] at h
    obtain ⟨h1, h2⟩ := h
    obtain ⟨cs, h3, h4⟩ := wCels_eq h2
    exact ⟨_, h3, fun i => ⟨⟨rfl, h1⟩, h4 i⟩⟩
def wV1s {β : Type} : List Value → (List V1 → Option β) → Option β
  | [], k => k []
  | .agg cs :: l, k => wCels cs.toList fun cs => wV1s l fun l' => k (.a cs :: l')
  | v :: l, k => gd v.oneCell' (wVal v fun v => wV1s l fun l' => k (.c (.x v) :: l'))
theorem wV1s_eq {β : Type} : ∀ {l : List Value} {k : List V1 → Option β} {r : β}, wV1s l k = some r → ∃ cs, k cs = some r ∧ ∀ i, LR (V1R i) cs l
  | [], k, r, h => ⟨[], h, fun _ => trivial⟩
  | v :: l, k, r, h => by
    have one : gd v.oneCell' (wVal v fun v => wV1s l fun l' => k (.c (.x v) :: l')) = some r → ∃ cs, k cs = some r ∧ ∀ i, LR (V1R i) cs (v :: l) := by
      intro h
      simp only [gd_eq, wVal_eq] at h
      obtain ⟨h1, h2⟩ := h
      obtain ⟨cs, h3, h4⟩ := wV1s_eq h2
      exact ⟨_, h3, fun i => ⟨⟨rfl, h1⟩, h4 i⟩⟩
    cases v with
    | agg a =>
      simp only [wV1s] at h
      obtain ⟨cs, h1, h2⟩ := wCels_eq h
      obtain ⟨ls, h3, h4⟩ := wV1s_eq h1
      exact ⟨_, h3, fun i => ⟨⟨a, rfl, h2 i⟩, h4 i⟩⟩
    | _ => exact one h
def wAV {β : Type} (v : Value) (k : AV → Option β) : Option β :=
  match v with
  | .agg cs => wCels cs.toList fun l => k (.v (.a l))
  | .tuple vs => wV1s vs.toList fun l => k (.t l)
  | v => wVal v fun v => k (.v (.c (.x v)))
theorem wAV_eq {β : Type} {v : Value} {k : AV → Option β} {r : β} (h : wAV v k = some r) : ∃ x, k x = some r ∧ ∀ i, AR i x v := by
  cases v with
  | agg a =>
    obtain ⟨cs, h1, h2⟩ := wCels_eq h
    exact ⟨_, h1, fun i => ⟨a, rfl, h2 i⟩⟩
  | tuple a =>
    obtain ⟨cs, h1, h2⟩ := wV1s_eq h
    exact ⟨_, h1, fun i => ⟨a, rfl, h2 i⟩⟩
  | _ => exact ⟨.v (.c (.x _)), by simpa [wAV] using h, fun i => ⟨rfl, rfl⟩⟩
/- what is the same on both sides -/
def plainL : List Cel → Option (List Value)
  | [] => some []
  | .x v :: l => match plainL l with | some m => some (v :: m) | none => none
  | .q n :: l => match plainL l with | some m => some (.int (Val.k n) (Val.n n) :: m) | none => none
  | _ :: _ => none
def plain : AV → Option Value
  | .v (.c (.x v)) => some v
  | .v (.c (.q n)) => some (.int (Val.k n) (Val.n n))
  | .v (.a l) => match plainL l with | some m => some (.agg m.toArray) | none => none
  | _ => none
theorem plainL_eq {i : Inj} : ∀ {l : List Cel} {m us : List Value}, plainL l = some m → LR (CR i) l us → us = m
  | [], m, [], h, _ => by simpa [plainL] using h
  | .x v :: l, m, u :: us, h, ⟨h1, h2⟩ => by
    simp only [plainL] at h
    split at h
    · rename_i m' hm
      simp at h
      subst h
      rw [h1.1, plainL_eq hm h2]
    · cases h
  | .q n :: l, m, u :: us, h, ⟨h1, h2⟩ => by
    simp only [plainL] at h
    split at h
    · rename_i m' hm
      simp at h
      subst h
      have h3 : u = _ := h1
      rw [h3, plainL_eq hm h2]
    · cases h
  | .p _ _ :: _, _, _, h, _ => by simp [plainL] at h
  | .s _ _ _ _ _ _ :: _, _, _, h, _ => by simp [plainL] at h
  | .m _ :: _, _, _, h, _ => by simp [plainL] at h
  | .f _ _ _ :: _, _, _, h, _ => by simp [plainL] at h
  | .y _ :: _, _, _, h, _ => by simp [plainL] at h
  | [], _, _ :: _, _, h => h.elim
  | .x _ :: _, _, [], _, h => h.elim
  | .q _ :: _, _, [], _, h => h.elim
theorem plain_eq {i : Inj} {x : AV} {v u : Value} (h : plain x = some v) (g : AR i x u) : u = v := by
  cases x with
  | t l => simp [plain] at h
  | v y =>
    cases y with
    | c c =>
      cases c with
      | x v => simp [plain] at h; subst h; exact g.1
      | q n => simp [plain] at h; subst h; exact g
      | _ => simp [plain] at h
    | a l =>
      simp only [plain] at h
      split at h
      · rename_i m hm
        simp at h
        obtain ⟨us, rfl, h2⟩ := g
        rw [← h, ← plainL_eq hm h2]
      · cases h
def pv {α : Type} (P : Program) : Sem α → Option α
  | .pure a => some a
  | .program k => pv P (k P)
  | .mark _ k => pv P k
  | _ => none
theorem pv_run {α : Type} {P : Program} (w : World) : ∀ {s : Sem α} {a : α}, pv P s = some a → s.run P w = .ok a w
  | .pure a, b, h => by simp [pv] at h; subst h; rfl
  | .program k, a, h => pv_run (s := k P) w h
  | .mark m k, a, h => pv_run (s := k) w h
  | .load _ _ _, _, h => by simp [pv] at h
  | .store _ _ _ _, _, h => by simp [pv] at h
  | .new _ _, _, h => by simp [pv] at h
  | .shape _ _, _, h => by simp [pv] at h
  | .freeze _ _ _, _, h => by simp [pv] at h
  | .frozen _ _, _, h => by simp [pv] at h
  | .getObj _ _, _, h => by simp [pv] at h
  | .setObj _ _ _, _, h => by simp [pv] at h
  | .choose _ _, _, h => by simp [pv] at h
  | .sys _ _, _, h => by simp [pv] at h
  | .halt _, _, h => by simp [pv] at h
/- operands -/
def constV (v : Value) : Option AV :=
  match v with
  | .tuple _ => none
  | .agg cs => wCels cs.toList fun l => some (.v (.a l))
  | v => some (.v (.c (.x v)))
def ev (t : Tri AV) : Operand → Option AV
  | .tmp s => t.get s
  | .const v => constV v
  | .global _ => none
  | .func f => some (.v (.c (.x (.func (.func f) #[] #[]))))
theorem constV_eq {v : Value} {x : AV} (h : constV v = some x) (i : Inj) : AR i x v := by
  cases v with
  | tuple a => simp [constV] at h
  | agg a =>
    obtain ⟨cs, h1, h2⟩ := wCels_eq (k := fun l => some (AV.v (.a l))) h
    simp at h1
    subst h1
    exact ⟨a, rfl, h2 i⟩
  | _ => simp [constV] at h; subst h; exact ⟨rfl, rfl⟩
inductive DA where
  | f (g : FuncId) (xs : List AV)
  | m (b : Nat)
structure T where
  n : Nat
  m : Tri AV
  d : List DA
def DR (i : Inj) : DA → Deferred → Prop
  | .f g xs, d => ∃ caps, d.target = .fn (.func g) caps ∧ LR (AR i) xs (d.args ++ caps).toList
  | .m b, d => ∃ k N, i b = some (k, N) ∧ d.target = .collected k
theorem DR.mono {i j : Inj} (h : Le i j) : ∀ {p : DA} {d : Deferred}, DR i p d → DR j p d
  | .f _ _, _, ⟨caps, h1, h2⟩ => ⟨caps, h1, h2.imp fun _ _ h3 => h3.mono h⟩
  | .m _, _, ⟨k, N, h1, h2⟩ => ⟨k, N, h _ _ h1, h2⟩
structure TR (i : Inj) (t : T) (a : Act) : Prop where
  defers : LR (DR i) t.d a.defers
  size : a.tmps.size = t.n
  slot : ∀ s x, t.m.get s = some x → AR i x (a.tmps.getD s undef)
theorem TR.mono {i j : Inj} (h : Le i j) {t : T} {a : Act} (g : TR i t a) : TR j t a := ⟨g.defers.imp fun _ _ h3 => h3.mono h, g.size, fun s x hs => (g.slot s x hs).mono h⟩
theorem ev_eq {i : Inj} {t : T} {a : Act} (g : TR i t a) {x : Operand} {y : AV} (h : ev t.m x = some y) : AR i y (a.eval x) := by
  cases x with
  | tmp s => exact g.slot s y h
  | const v => exact constV_eq h i
  | global _ => simp [ev] at h
  | func f => simp [ev] at h; subst h; exact ⟨rfl, rfl⟩
def tput (t : T) (d : Option Tmp) (x : AV) : Option T :=
  match d with
  | none => some t
  | some d => gd (Nat.blt d t.n) (match t.m.set 64 d x with | some m => some ⟨t.n, m, t.d⟩ | none => none)
theorem tput_eq {i : Inj} {t t' : T} {a : Act} (g : TR i t a) {d : Option Tmp} {x : AV} {v : Value} (h : tput t d x = some t') (hv : AR i x v) : TR i t' (a.put d v) := by
  cases d with
  | none => simp [tput] at h; subst h; exact g
  | some d =>
    simp only [tput, gd_eq] at h
    obtain ⟨h1, h⟩ := h
    split at h
    · rename_i m hm
      simp at h
      subst h
      have hs := Tri.get_set _ _ _ _ _ hm
      have hd : d < a.tmps.size := by rw [g.size]; simpa [Nat.blt_eq] using h1
      refine ⟨g.defers, by simpa [Act.put] using g.size, fun s y hy => ?_⟩
      rw [hs] at hy
      split at hy
      · rename_i e
        subst e
        simp at hy
        subst hy
        simpa [Act.put, Array.getD, hd] using hv
      · rename_i e
        have := g.slot s y hy
        simpa [Act.put, Array.getElem?_setIfInBounds_ne (Ne.symm e)] using this
    · cases h
/- sizes -/
def szOf (P : Program) (t : TypeId) : Option Nat := match P.info? t with | some i => some i.size | none => none
theorem szOf_eq {P : Program} {t : TypeId} {n : Nat} (h : szOf P t = some n) : ∃ i, P.info? t = some i ∧ i.size = n := by
  unfold szOf at h
  split at h
  · rename_i i hi; simp at h; exact ⟨i, hi, h⟩
  · cases h
theorem szOf_run {P : Program} {t : TypeId} {n : Nat} (h : szOf P t = some n) (w : World) : (sizeOf t).run P w = .ok n w := by
  obtain ⟨i, hi, rfl⟩ := szOf_eq h
  simp [sizeOf, typeInfo, hi]
def aggSz (P : Program) (t : TypeId) : Option (Option Nat) :=
  match P.underlying t with
  | some (.struct _) => (match szOf P t with | some n => some (some n) | none => none)
  | some (.array _ _) => (match szOf P t with | some n => some (some n) | none => none)
  | some _ => some none
  | none => none
theorem aggSz_some {P : Program} {t : TypeId} {n : Nat} (h : aggSz P t = some (some n)) (w : World) : (isAgg t).run P w = .ok true w ∧ (sizeOf t).run P w = .ok n w := by
  unfold aggSz at h
  split at h
  · rename_i d hd
    split at h
    · rename_i n' hn; simp at h; subst h; exact ⟨by simp [isAgg, run_underlying hd], szOf_run hn w⟩
    · cases h
  · rename_i d hd
    split at h
    · rename_i n' hn; simp at h; subst h; exact ⟨by simp [isAgg, run_underlying hd], szOf_run hn w⟩
    · cases h
  · simp at h
  · cases h
theorem aggSz_none {P : Program} {t : TypeId} (h : aggSz P t = some none) (w : World) : (isAgg t).run P w = .ok false w := by
  unfold aggSz at h
  split at h
  · split at h <;> simp at h
  · split at h <;> simp at h
  · rename_i d h1 h2 hd
    cases d <;> first | simp [isAgg, run_underlying hd]; done | skip
    all_goals simp_all
  · cases h
/- cells are read -/
def rd (t : Tri Cel) : Nat → Nat → Option (List Cel)
  | _, 0 => some []
  | o, n + 1 => match t.get o with | none => none | some c => match rd t (o + 1) n with | none => none | some l => some (c :: l)
theorem rd_eq {w : World} {i : Inj} {t : Tri Cel} {k : Nat} (H : ∀ j x, t.get j = some x → ∃ u, w.cell? ⟨k, j, none⟩ = some u ∧ CR i x u) :
    ∀ (n o : Nat) (l : List Cel), rd t o n = some l → ∃ us : List Value, us.length = n ∧ LR (CR i) l us ∧ ∀ j u, us[j]? = some u → w.cell? ⟨k, o + j, none⟩ = some u
  | 0, o, l, h => by simp [rd] at h; subst h; exact ⟨[], rfl, trivial, by simp⟩
  | n + 1, o, l, h => by
    simp only [rd] at h
    split at h
    · cases h
    · rename_i c hc
      split at h
      · cases h
      · rename_i m hm
        simp at h
        subst h
        obtain ⟨u, h1, h2⟩ := H _ _ hc
        obtain ⟨us, h3, h4, h5⟩ := rd_eq H n (o + 1) m hm
        refine ⟨u :: us, by simp [h3], ⟨h2, h4⟩, fun j v hj => ?_⟩
        cases j with
        | zero => simp at hj; subst hj; exact h1
        | succ j => have := h5 j v (by simpa using hj); rw [show o + (j + 1) = o + 1 + j by omega]; exact this
def aLoad (P : Program) (h : Hp) (ty : TypeId) (b o : Nat) : Option AV :=
  match h.m.get b with
  | some (.c _ t) => match aggSz P ty with
    | some (some n) => (match rd t o n with | some l => some (.v (.a l)) | none => none)
    | some none => (match t.get o with | some c => some (.v (.c c)) | none => none)
    | none => none
  | _ => none
section
variable {P : Program} {w0 : Base} {i : Inj} {h : Hp} {w : World}
theorem aLoad_eq (hR : Rel w0 i h.m.get h.n w) {ty : TypeId} {b o k N : Nat} {x : AV} (hi : i b = some (k, N)) (hl : aLoad P h ty b o = some x) : ∃ u, (loadVar ty ⟨k, o, none⟩).run P w = .ok u w ∧ AR i x u := by
  unfold aLoad at hl
  split at hl
  · rename_i e t hb
    have H : ∀ j x, t.get j = some x → ∃ u, w.cell? ⟨k, j, none⟩ = some u ∧ CR i x u := fun j x hj => let ⟨u, h1, h2, _⟩ := hR.cell hb hi hj; ⟨u, h1, h2⟩
    split at hl
    · rename_i n hn
      split at hl
      · rename_i l hrd
        simp at hl
        subst hl
        obtain ⟨us, h1, h2, h3⟩ := rd_eq H _ _ _ hrd
        have hrun := run_loadCells_list (P := P) w ⟨k, o, none⟩ us (fun j v hv => by rw [addr_add]; exact h3 j v hv)
        rw [h1] at hrun
        obtain ⟨a1, a2⟩ := aggSz_some hn w
        exact ⟨.agg us.toArray, by simp [loadVar, a1, a2, hrun], us.toArray, rfl, by simpa using h2⟩
      · cases hl
    · rename_i hn
      split at hl
      · rename_i c hc
        simp at hl
        subst hl
        obtain ⟨u, h1, h2⟩ := H _ _ hc
        exact ⟨u, by simp [loadVar, aggSz_none hn w, load, Sem.run, h1], h2⟩
      · cases hl
    · cases hl
  · cases hl
/- cells are written -/
def celsOf : AV → Option (List Cel)
  | .v (.c c) => some [c]
  | .v (.a l) => some l
  | .t _ => none
theorem celsOf_eq {x : AV} {l : List Cel} {u : Value} (h : celsOf x = some l) (g : AR i x u) : LR (CR i) l u.cells.toList := by
  cases x with
  | t _ => simp [celsOf] at h
  | v y =>
    cases y with
    | c c =>
      simp [celsOf] at h
      subst h
      have hu : u.cells = #[u] := by have := CR.one (i := i) (c := c) (u := u) g; cases u <;> first | rfl | simp [Value.oneCell'] at this
      rw [hu]
      exact ⟨g, trivial⟩
    | a m =>
      simp [celsOf] at h
      subst h
      obtain ⟨us, rfl, h2⟩ := g
      exact h2
def wr (t : Tri Cel) : Nat → List Cel → Option (Tri Cel)
  | _, [] => some t
  | o, c :: l => match t.get o with | none => none | some _ => match t.set 64 o c with | none => none | some t' => wr t' (o + 1) l
theorem up_get {m m' : Tri AO} {b : Nat} {o : AO} (h : m.set 64 b o = some m') : m'.get = up m.get b o := by
  funext j; rw [Tri.get_set _ _ _ _ _ h]; rfl
theorem up_up (g : Nat → Option AO) (b : Nat) (o o' : AO) : up (up g b o) b o' = up g b o' := by funext j; unfold up; split <;> rfl
theorem up_self {g : Nat → Option AO} {b : Nat} {o : AO} (h : g b = some o) : up g b o = g := by funext j; unfold up; split <;> simp_all
theorem wr_eq {b k N n : Nat} {e : TypeId} (hi : i b = some (k, N)) : ∀ (l : List Cel) (us : List Value) (j o : Nat) (g : Nat → Option AO) (w : World) (t t' : Tri Cel), Rel w0 i g n w → g b = some (.c e t) → LR (CR i) l us → wr t (o + j) l = some t' →
    ∃ w', (storeCells ⟨k, o, none⟩ us j).run P w = .ok () w' ∧ Rel w0 i (up g b (.c e t')) n w'
  | [], [], j, o, g, w, t, t', hR, hb, _, h => by simp [wr] at h; subst h; exact ⟨w, rfl, by rw [up_self hb]; exact hR⟩
  | c :: l, u :: us, j, o, g, w, t, t', hR, hb, ⟨h1, h2⟩, h => by
    simp only [wr] at h
    split at h
    · cases h
    · rename_i old hold
      split at h
      · cases h
      · rename_i t1 ht1
        obtain ⟨x, c1, c2, c3⟩ := hR.cell hb hi hold
        have hR' := hR.write hb hi hold (Tri.get_set _ _ _ _ _ ht1) h1
        obtain ⟨w', h3, h4⟩ := wr_eq hi l us (j + 1) o (up g b (.c e t1)) _ t1 t' hR' (if_pos rfl) h2 h
        refine ⟨w', ?_, by rw [up_up] at h4; exact h4⟩
        have hst : (store ⟨k, o + j, none⟩ u).run P w = .ok () (w.setCell ⟨k, o + j, none⟩ u) := by
          rw [run_store _ _ _ _ _ (CR.one h1)]
          simp [c1, c3]
        simp only [storeCells, addr_add, Sem.run_bind, hst, Result.andThen_ok]
        exact h3
  | [], _ :: _, _, _, _, _, _, _, _, _, h, _ => h.elim
  | _ :: _, [], _, _, _, _, _, _, _, _, h, _ => h.elim
def aStore (P : Program) (h : Hp) (ty : TypeId) (b o : Nat) (x : AV) : Option Hp :=
  match h.m.get b with
  | some (.c e t) => match celsOf x with
    | some l => (match szOf P ty with
      | some n => gd (Nat.beq l.length n) (match wr t o l with
        | some t' => (match h.m.set 64 b (.c e t') with | some m => some ⟨m, h.n⟩ | none => none)
        | none => none)
      | none => none)
    | none => none
  | _ => none
theorem aStore_eq (hR : Rel w0 i h.m.get h.n w) {ty : TypeId} {b o k N : Nat} {x : AV} {u : Value} {h' : Hp} (hi : i b = some (k, N)) (hx : AR i x u) (hl : aStore P h ty b o x = some h') :
    ∃ w', (storeVar ty ⟨k, o, none⟩ u).run P w = .ok () w' ∧ Rel w0 i h'.m.get h'.n w' := by
  unfold aStore at hl
  split at hl
  · rename_i e t hb
    split at hl
    · rename_i l hc
      split at hl
      · rename_i n hn
        simp only [gd_eq] at hl
        obtain ⟨hlen, hl⟩ := hl
        split at hl
        · rename_i t' ht
          split at hl
          · rename_i m hm
            simp at hl
            subst hl
            have hLR := celsOf_eq hc hx
            obtain ⟨w', h1, h2⟩ := wr_eq (P := P) hi l u.cells.toList 0 o _ w t t' hR hb hLR ht
            have hs : u.cells.size = n := by have := hLR.len; simp at this; have := Nat.eq_of_beq_eq_true hlen; omega
            refine ⟨w', ?_, by dsimp only; rw [up_get hm]; exact h2⟩
            simp [storeVar, szOf_run hn w, hs, h1]
          · cases hl
        · cases hl
      · cases hl
    · cases hl
  · cases hl
end
end R
end Go.Proofs.YtcccdlmngddalaaGreat
