/- A run on memory of its own kind: blocks by numbers of the run, each laid on a block of the world; what the run's memory says holds in the world. -/
import Derived.Test.YtcccdlmngddalaaGreatMem
set_option linter.unusedVariables false
set_option linter.unusedSimpArgs false
set_option linter.unusedSectionVars false
namespace Go.Proofs.YtcccdlmngddalaaGreat
open Go.RowKit
namespace R
inductive Tri (α : Type) where
  | e
  | n (l : Tri α) (v : Option α) (r : Tri α)
def Tri.get {α : Type} : Tri α → Nat → Option α
  | .e, _ => none
  | .n l v r, k => cond (Nat.beq k 0) v (cond (Nat.beq (Nat.mod k 2) 1) (l.get (Nat.div k 2)) (r.get (Nat.sub (Nat.div k 2) 1)))
def Tri.set {α : Type} : Nat → Tri α → Nat → α → Option (Tri α)
  | 0, _, _, _ => none
  | f + 1, .e, k, x => cond (Nat.beq k 0) (some (.n .e (some x) .e))
      (cond (Nat.beq (Nat.mod k 2) 1) (match set f .e (Nat.div k 2) x with | some l => some (.n l none .e) | none => none)
        (match set f .e (Nat.sub (Nat.div k 2) 1) x with | some r => some (.n .e none r) | none => none))
  | f + 1, .n l v r, k, x => cond (Nat.beq k 0) (some (.n l (some x) r))
      (cond (Nat.beq (Nat.mod k 2) 1) (match set f l (Nat.div k 2) x with | some l => some (.n l v r) | none => none)
        (match set f r (Nat.sub (Nat.div k 2) 1) x with | some r => some (.n l v r) | none => none))
def Tri.del {α : Type} : Nat → Tri α → Nat → Option (Tri α)
  | 0, _, _ => none
  | f + 1, .e, _ => some .e
  | f + 1, .n l v r, k => cond (Nat.beq k 0) (some (.n l none r))
      (cond (Nat.beq (Nat.mod k 2) 1) (match del f l (Nat.div k 2) with | some l => some (.n l v r) | none => none)
        (match del f r (Nat.sub (Nat.div k 2) 1) with | some r => some (.n l v r) | none => none))
theorem beq_ff {a b : Nat} (h : a ≠ b) : Nat.beq a b = false := by
  cases hb : Nat.beq a b with
  | false => rfl
  | true => exact absurd (Nat.eq_of_beq_eq_true hb) h
theorem beq_tt {a b : Nat} (h : a = b) : Nat.beq a b = true := by subst h; exact Nat.beq_refl a
theorem key_cases (k : Nat) : (k = 0) ∨ (∃ j, k = 2 * j + 1 ∧ Nat.beq k 0 = false ∧ Nat.beq (Nat.mod k 2) 1 = true ∧ Nat.div k 2 = j) ∨ (∃ j, k = 2 * j + 2 ∧ Nat.beq k 0 = false ∧ Nat.beq (Nat.mod k 2) 1 = false ∧ Nat.sub (Nat.div k 2) 1 = j) := by
  by_cases h : k = 0
  · exact .inl h
  · by_cases h2 : k % 2 = 1
    · refine .inr (.inl ⟨k / 2, by omega, beq_ff h, beq_tt h2, rfl⟩)
    · refine .inr (.inr ⟨k / 2 - 1, by omega, beq_ff h, beq_ff h2, rfl⟩)
theorem Tri.get_l {α : Type} (l r : Tri α) (v : Option α) (j : Nat) : (Tri.n l v r).get (2 * j + 1) = l.get j := by
  rcases key_cases (2 * j + 1) with h | ⟨i, h, h1, h2, h3⟩ | ⟨i, h, _⟩
  · omega
  · simp only [Tri.get, h1, h2, h3, cond]; congr 1; omega
  · omega
theorem Tri.get_r {α : Type} (l r : Tri α) (v : Option α) (j : Nat) : (Tri.n l v r).get (2 * j + 2) = r.get j := by
  rcases key_cases (2 * j + 2) with h | ⟨i, h, _⟩ | ⟨i, h, h1, h2, h3⟩
  · omega
  · omega
  · simp only [Tri.get, h1, h2, h3, cond]; congr 1; omega
theorem Tri.get_0 {α : Type} (l r : Tri α) (v : Option α) : (Tri.n l v r).get 0 = v := rfl
theorem Tri.get_set {α : Type} : ∀ (f : Nat) (t : Tri α) (k : Nat) (x : α) (t' : Tri α), t.set f k x = some t' → ∀ j, t'.get j = if j = k then some x else t.get j
  | 0, _, _, _, _, h => by simp [Tri.set] at h
  | f + 1, t, k, x, t', h => by
    intro j
    have ht : ∃ l v r, (∀ j, t.get j = (Tri.n l v r).get j) ∧ Tri.set (f + 1) (Tri.n l v r) k x = some t' := by
      cases t with
      | n l v r => exact ⟨l, v, r, fun _ => rfl, h⟩
      | e =>
        refine ⟨.e, none, .e, fun j => ?_, ?_⟩
        · rcases key_cases j with rfl | ⟨i, rfl, _⟩ | ⟨i, rfl, _⟩
          · rfl
          · rw [Tri.get_l]; rfl
          · rw [Tri.get_r]; rfl
        · rw [← h]; rfl
    obtain ⟨l, v, r, hg, h⟩ := ht
    rw [hg]
    rcases key_cases k with rfl | ⟨i, rfl, h1, h2, h3⟩ | ⟨i, rfl, h1, h2, h3⟩
    · have h' : some (Tri.n l (some x) r) = some t' := h
      simp at h'
      subst h'
      rcases key_cases j with rfl | ⟨i, rfl, _⟩ | ⟨i, rfl, _⟩
      · rfl
      · rw [Tri.get_l, Tri.get_l, if_neg (by omega)]
      · rw [Tri.get_r, Tri.get_r, if_neg (by omega)]
    · simp only [Tri.set, h1, h2, h3, cond] at h
      cases hs : Tri.set f l i x with
      | none => simp [hs] at h
      | some l' =>
        simp only [hs, Option.some.injEq] at h
        subst h
        have ih := Tri.get_set f l i x l' hs
        rcases key_cases j with rfl | ⟨m, rfl, _⟩ | ⟨m, rfl, _⟩
        · rw [if_neg (by omega)]; rfl
        · rw [Tri.get_l, Tri.get_l, ih]
          by_cases e : m = i
          · subst e; simp
          · rw [if_neg e, if_neg (by omega)]
        · rw [Tri.get_r, Tri.get_r, if_neg (by omega)]
    · simp only [Tri.set, h1, h2, h3, cond] at h
      cases hs : Tri.set f r i x with
      | none => simp [hs] at h
      | some r' =>
        simp only [hs, Option.some.injEq] at h
        subst h
        have ih := Tri.get_set f r i x r' hs
        rcases key_cases j with rfl | ⟨m, rfl, _⟩ | ⟨m, rfl, _⟩
        · rw [if_neg (by omega)]; rfl
        · rw [Tri.get_l, Tri.get_l, if_neg (by omega)]
        · rw [Tri.get_r, Tri.get_r, ih]
          by_cases e : m = i
          · subst e; simp
          · rw [if_neg e, if_neg (by omega)]
theorem Tri.get_del {α : Type} : ∀ (f : Nat) (t : Tri α) (k : Nat) (t' : Tri α), t.del f k = some t' → ∀ j, t'.get j = if j = k then none else t.get j
  | 0, _, _, _, h => by simp [Tri.del] at h
  | f + 1, .e, k, t', h => by
    intro j
    simp [Tri.del] at h
    subst h
    simp [Tri.get]
  | f + 1, .n l v r, k, t', h => by
    intro j
    rcases key_cases k with rfl | ⟨i, rfl, h1, h2, h3⟩ | ⟨i, rfl, h1, h2, h3⟩
    · have h' : some (Tri.n l none r) = some t' := h
      simp at h'
      subst h'
      rcases key_cases j with rfl | ⟨i, rfl, _⟩ | ⟨i, rfl, _⟩
      · rfl
      · rw [Tri.get_l, Tri.get_l, if_neg (by omega)]
      · rw [Tri.get_r, Tri.get_r, if_neg (by omega)]
    · simp only [Tri.del, h1, h2, h3, cond] at h
      cases hs : Tri.del f l i with
      | none => simp [hs] at h
      | some l' =>
        simp only [hs, Option.some.injEq] at h
        subst h
        have ih := Tri.get_del f l i l' hs
        rcases key_cases j with rfl | ⟨m, rfl, _⟩ | ⟨m, rfl, _⟩
        · rw [if_neg (by omega)]; rfl
        · rw [Tri.get_l, Tri.get_l, ih]
          by_cases e : m = i
          · subst e; simp
          · rw [if_neg e, if_neg (by omega)]
        · rw [Tri.get_r, Tri.get_r, if_neg (by omega)]
    · simp only [Tri.del, h1, h2, h3, cond] at h
      cases hs : Tri.del f r i with
      | none => simp [hs] at h
      | some r' =>
        simp only [hs, Option.some.injEq] at h
        subst h
        have ih := Tri.get_del f r i r' hs
        rcases key_cases j with rfl | ⟨m, rfl, _⟩ | ⟨m, rfl, _⟩
        · rw [if_neg (by omega)]; rfl
        · rw [Tri.get_l, Tri.get_l, if_neg (by omega)]
        · rw [Tri.get_r, Tri.get_r, ih]
          by_cases e : m = i
          · subst e; simp
          · rw [if_neg e, if_neg (by omega)]
def FactOk (k : IntKind) (n : Int) (f : BinOp × Bool × Int × Value) : Prop :=
  f.2.2.2.oneCell' = true ∧ ∀ (P : Program) (ty : TypeId) (w : World), (cond f.2.1 (binOp f.1 ty (.int k f.2.2.1) (.int k n)) (binOp f.1 ty (.int k n) (.int k f.2.2.1))).run P w = .ok f.2.2.2 w
class Val where
  k : Nat → IntKind
  n : Nat → Int
  fs : Nat → List (BinOp × Bool × Int × Value)
  ok : ∀ q, ∀ f ∈ fs q, FactOk (k q) (n q) f
instance val0 : Val := ⟨fun _ => .i64, fun _ => 0, fun _ => [], fun _ f hf => absurd hf List.not_mem_nil⟩
variable [vl : Val]
inductive Cap where
  | x (v : Value)
  | p (b o : Nat)
inductive Cel where
  | x (v : Value)
  | p (b o : Nat)
  | s (b o n c z : Nat) (ex : Bool)
  | m (b : Nat)
  | f (fn : Nat) (fs cs : List Cap)
  | y (b : Nat)
  | q (n : Nat)
inductive V1 where
  | c (x : Cel)
  | a (l : List Cel)
inductive AV where
  | v (x : V1)
  | t (l : List V1)
inductive AO where
  | c (e : TypeId) (t : Tri Cel)
  | m (es : List (Value × V1 × Nat)) (clock : Nat)
  | it (m : Option Nat) (since : Nat) (seen : List Nat) (last : Nat)
  | si (l : List UInt8) (pos : Nat)
  | lo (st : LoopState) (pend : Option Code) (n : Nat) (m : Tri AV) (ps : List Tmp) (asg body : Code) (D : Nat)
  | df (op : Bool)
  | d
abbrev Inj := Nat → Option (Nat × Nat)
def Le (i j : Inj) : Prop := ∀ b y, i b = some y → j b = some y
theorem Le.refl (i : Inj) : Le i i := fun _ _ h => h
theorem Le.trans {i j k : Inj} (h : Le i j) (g : Le j k) : Le i k := fun b y e => g b y (h b y e)
def LR {α β : Type} (R : α → β → Prop) : List α → List β → Prop
  | [], [] => True
  | a :: l, b :: m => R a b ∧ LR R l m
  | _, _ => False
section lr
variable {α β : Type} {R S : α → β → Prop}
theorem LR.imp (h : ∀ a b, R a b → S a b) : ∀ {l : List α} {m : List β}, LR R l m → LR S l m
  | [], [], _ => trivial
  | _ :: _, _ :: _, ⟨h1, h2⟩ => ⟨h _ _ h1, LR.imp h h2⟩
theorem LR.len : ∀ {l : List α} {m : List β}, LR R l m → l.length = m.length
  | [], [], _ => rfl
  | _ :: _, _ :: _, ⟨_, h2⟩ => by simp [LR.len h2]
theorem LR.app : ∀ {l l' : List α} {m m' : List β}, LR R l m → LR R l' m' → LR R (l ++ l') (m ++ m')
  | [], _, [], _, _, h => h
  | _ :: _, _, _ :: _, _, ⟨h1, h2⟩, h => ⟨h1, LR.app h2 h⟩
theorem LR.get : ∀ {l : List α} {m : List β}, LR R l m → ∀ (i : Nat) (a : α), l[i]? = some a → ∃ b, m[i]? = some b ∧ R a b
  | _ :: _, b :: _, ⟨h1, _⟩, 0, a, h => by simp at h; subst h; exact ⟨b, by simp, h1⟩
  | _ :: _, _ :: _, ⟨_, h2⟩, i + 1, a, h => by simpa using LR.get h2 i a (by simpa using h)
theorem LR.of : ∀ {l : List α} {m : List β}, l.length = m.length → (∀ (i : Nat) a b, l[i]? = some a → m[i]? = some b → R a b) → LR R l m
  | [], [], _, _ => trivial
  | a :: l, b :: m, h, g => ⟨g 0 a b (by simp) (by simp), LR.of (by simpa using h) fun i x y h1 h2 => g (i + 1) x y (by simpa using h1) (by simpa using h2)⟩
  | [], _ :: _, h, _ => by simp at h
  | _ :: _, [], h, _ => by simp at h
theorem LR.take {l : List α} {m : List β} (h : LR R l m) (k : Nat) : LR R (l.take k) (m.take k) :=
  LR.of (by simp [h.len]) fun i a b h1 h2 => by
    rw [List.getElem?_take] at h1 h2
    split at h1 <;> simp_all
    obtain ⟨b', hb, hr⟩ := h.get i a h1
    rw [hb] at h2; cases h2; exact hr
theorem LR.drop {l : List α} {m : List β} (h : LR R l m) (k : Nat) : LR R (l.drop k) (m.drop k) :=
  LR.of (by simp [h.len]) fun i a b h1 h2 => by
    rw [List.getElem?_drop] at h1 h2
    obtain ⟨b', hb, hr⟩ := h.get _ a h1
    rw [hb] at h2; cases h2; exact hr
end lr
def CapR (i : Inj) : Cap → Value → Prop
  | .x v, u => u = v ∧ v.oneCell' = true
  | .p b o, u => ∃ k N, i b = some (k, N) ∧ u = .pointer (some ⟨k, o, none⟩)
def CR (i : Inj) : Cel → Value → Prop
  | .x v, u => u = v ∧ v.oneCell' = true
  | .p b o, u => ∃ k N, i b = some (k, N) ∧ u = .pointer (some ⟨k, o, none⟩)
  | .s b o n c z ex, u => ∃ k N c', i b = some (k, N) ∧ u = .slice (some ⟨k, o, none⟩) n c' ∧ n ≤ c ∧ c ≤ c' ∧ c' ≤ maxLen ∧ (ex = true → c' = c) ∧ (ex = false → 0 < z ∧ N = o + c' * z)
  | .m b, u => ∃ k N, i b = some (k, N) ∧ u = .map (some k)
  | .f fn fs cs, u => ∃ vs us, u = .func (.func fn) vs us ∧ LR (CapR i) fs vs.toList ∧ LR (CapR i) cs us.toList
  | .y b, u => ∃ k N, i b = some (k, N) ∧ u = .func (.yield k) #[] #[]
  | .q n, u => u = .int (Val.k n) (Val.n n)
def V1R (i : Inj) : V1 → Value → Prop
  | .c x, u => CR i x u
  | .a l, u => ∃ us, u = .agg us ∧ LR (CR i) l us.toList
def AR (i : Inj) : AV → Value → Prop
  | .v x, u => V1R i x u
  | .t l, u => ∃ us, u = .tuple us ∧ LR (V1R i) l us.toList
def ER (i : Inj) (x : Value × V1 × Nat) (e : MapEntry) : Prop := e.key = x.1 ∧ V1R i x.2.1 e.val ∧ e.born = x.2.2
def OR (i : Inj) (N : Nat) : AO → Obj → Prop
  | .c e t, o => ∃ arr, o = .cells arr e (0, 0) ∧ arr.size = N ∧ ∀ j x, t.get j = some x → ∃ u, arr[j]? = some u ∧ CR i x u
  | .m es clock, o => ∃ ents, o = .map ents clock ∧ LR (ER i) es ents.toList
  | .it m since seen last, o => ∃ k, o = .mapIter k since seen.toArray last ∧ (match m with | none => k = none | some b => ∃ q N, i b = some (q, N) ∧ k = some q)
  | .si l pos, o => o = .stringIter ⟨l.toArray⟩ pos
  | .lo st pend n m ps asg body D, o => ∃ r : Loop, o = .loop r ∧ r.state = st ∧ r.pending = pend ∧ r.params = ps.toArray ∧ r.assign = asg ∧ r.body = body ∧ (∃ q M, i D = some (q, M) ∧ r.defers = q) ∧ r.tmps.size = n ∧ ∀ s x, m.get s = some x → AR i x (r.tmps.getD s undef)
  | .df op, o => o = .deferred (if op = true then some [] else none)
  | .d, _ => True
theorem CapR.mono {i j : Inj} (h : Le i j) {c : Cap} {u : Value} (g : CapR i c u) : CapR j c u := by
  cases c with
  | x v => exact g
  | p b o => obtain ⟨k, N, h1, h2⟩ := g; exact ⟨k, N, h _ _ h1, h2⟩
theorem CR.mono {i j : Inj} (h : Le i j) {c : Cel} {u : Value} (g : CR i c u) : CR j c u := by
  cases c with
  | x v => exact g
  | p b o => obtain ⟨k, N, h1, h2⟩ := g; exact ⟨k, N, h _ _ h1, h2⟩
  | s b o n c z ex => obtain ⟨k, N, c', h1, h2⟩ := g; exact ⟨k, N, c', h _ _ h1, h2⟩
  | m b => obtain ⟨k, N, h1, h2⟩ := g; exact ⟨k, N, h _ _ h1, h2⟩
  | f fn fs cs => obtain ⟨vs, us, h1, h2, h4⟩ := g; exact ⟨vs, us, h1, h2.imp fun _ _ h3 => h3.mono h, h4.imp fun _ _ h3 => h3.mono h⟩
  | y b => obtain ⟨k, N, h1, h2⟩ := g; exact ⟨k, N, h _ _ h1, h2⟩
  | q n => exact g
theorem V1R.mono {i j : Inj} (h : Le i j) {c : V1} {u : Value} (g : V1R i c u) : V1R j c u := by
  cases c with
  | c x => exact CR.mono h g
  | a l => obtain ⟨us, h1, h2⟩ := g; exact ⟨us, h1, h2.imp fun _ _ h3 => h3.mono h⟩
theorem AR.mono {i j : Inj} (h : Le i j) {c : AV} {u : Value} (g : AR i c u) : AR j c u := by
  cases c with
  | v x => exact V1R.mono h g
  | t l => obtain ⟨us, h1, h2⟩ := g; exact ⟨us, h1, h2.imp fun _ _ h3 => h3.mono h⟩
theorem OR.mono {i j : Inj} (h : Le i j) {N : Nat} {o : AO} {b : Obj} (g : OR i N o b) : OR j N o b := by
  cases o with
  | c e t => obtain ⟨arr, h1, h2, h3⟩ := g; exact ⟨arr, h1, h2, fun k x hk => let ⟨u, h4, h5⟩ := h3 k x hk; ⟨u, h4, h5.mono h⟩⟩
  | m es c => obtain ⟨us, h1, h2⟩ := g; exact ⟨us, h1, h2.imp fun _ _ h3 => ⟨h3.1, h3.2.1.mono h, h3.2.2⟩⟩
  | it m since seen last =>
    obtain ⟨k, h1, h2⟩ := g
    refine ⟨k, h1, ?_⟩
    cases m with
    | none => exact h2
    | some b => obtain ⟨q, N, h3, h4⟩ := h2; exact ⟨q, N, h _ _ h3, h4⟩
  | si l pos => exact g
  | lo st pend n m ps asg body D =>
    obtain ⟨r, h1, h2, h3, h4, h5, h6, ⟨q, M, h7, h8⟩, h9, h10⟩ := g
    exact ⟨r, h1, h2, h3, h4, h5, h6, ⟨q, M, h _ _ h7, h8⟩, h9, fun s x hs => (h10 s x hs).mono h⟩
  | df op => exact g
  | d => trivial
theorem CR.one {i : Inj} {c : Cel} {u : Value} (g : CR i c u) : u.oneCell' = true := by
  cases c with
  | x v => obtain ⟨rfl, h⟩ := g; exact h
  | p b o => obtain ⟨k, N, _, rfl⟩ := g; rfl
  | s b o n c z ex => obtain ⟨k, N, c', _, rfl, _⟩ := g; rfl
  | m b => obtain ⟨k, N, _, rfl⟩ := g; rfl
  | f fn fs cs => obtain ⟨vs, us, rfl, _⟩ := g; rfl
  | y b => obtain ⟨k, N, _, rfl⟩ := g; rfl
  | q n => have h : u = _ := g; rw [h]; rfl
structure Base where
  w : World
  gh : Nat → Prop
structure Rel (w0 : Base) (i : Inj) (g : Nat → Option AO) (n : Nat) (w : World) : Prop where
  mod : Mod (fun _ => False) w0.w w
  dom : ∀ b y, i b = some y → b < n
  lo : ∀ b k N, i b = some (k, N) → w0.w.heap.size ≤ k ∧ k < w.heap.size
  inj : ∀ b b' k N N' o o', i b = some (k, N) → i b' = some (k, N') → g b = some o → g b' = some o' → o ≠ .d → o' ≠ .d → b = b'
  obj : ∀ b o k N, g b = some o → i b = some (k, N) → ∃ ob, w.heap[k]? = some ob ∧ OR i N o ob
  gh : ∀ b, w0.gh b → b < n ∧ i b = none
def up (g : Nat → Option AO) (b : Nat) (o : AO) : Nat → Option AO := fun j => if j = b then some o else g j
theorem Rel.drew {w0 : Base} {i : Inj} {g : Nat → Option AO} {n : Nat} {w : World} (h : Rel w0 i g n w) : Rel w0 i g n w.drew := ⟨h.mod.drew, h.dom, h.lo, h.inj, h.obj, h.gh⟩
theorem Rel.cell {w0 : Base} {i : Inj} {g : Nat → Option AO} {n : Nat} {w : World} (h : Rel w0 i g n w) {b k N : Nat} {e : TypeId} {t : Tri Cel} (hb : g b = some (.c e t)) (hi : i b = some (k, N)) {j : Nat} {x : Cel} (hj : t.get j = some x) :
    ∃ u, w.cell? ⟨k, j, none⟩ = some u ∧ CR i x u ∧ w.frozen? ⟨k, j, none⟩ = false := by
  obtain ⟨ob, h1, arr, rfl, h2, h3⟩ := h.obj b _ k N hb hi
  obtain ⟨u, h4, h5⟩ := h3 j x hj
  exact ⟨u, by rw [cellOf h1]; exact h4, h5, freeOf h1 j⟩
theorem Rel.write {w0 : Base} {i : Inj} {g : Nat → Option AO} {n : Nat} {w : World} (h : Rel w0 i g n w) {b k N : Nat} {e : TypeId} {t t' : Tri Cel} (hb : g b = some (.c e t)) (hi : i b = some (k, N)) {j : Nat} {x y : Cel} (hj : t.get j = some y)
    (ht : ∀ m, t'.get m = if m = j then some x else t.get m) {u : Value} (hu : CR i x u) : Rel w0 i (up g b (.c e t')) n (w.setCell ⟨k, j, none⟩ u) := by
  obtain ⟨ob, h1, arr, rfl, h2, h3⟩ := h.obj b _ k N hb hi
  refine ⟨h.mod.setCell (.inr (h.lo b k N hi).1) u, h.dom, fun b k N hb => ⟨(h.lo b k N hb).1, by simpa [World.setCell] using (h.lo b k N hb).2⟩, fun b1 b2 k1 N1 N2 o1 o2 h4 h5 h6 h7 h8 h9 => ?_, fun b1 o1 k1 N1 h4 h5 => ?_, h.gh⟩
  · have live : ∀ {c : Nat} {o : AO}, up g b (.c e t') c = some o → o ≠ .d → ∃ o', g c = some o' ∧ o' ≠ .d := by
      intro c o hc ho
      unfold up at hc
      split at hc
      · rename_i e1; subst e1; exact ⟨_, hb, by simp⟩
      · exact ⟨o, hc, ho⟩
    obtain ⟨p1, q1, r1⟩ := live h6 h8
    obtain ⟨p2, q2, r2⟩ := live h7 h9
    exact h.inj b1 b2 k1 N1 N2 p1 p2 h4 h5 q1 q2 r1 r2
  · unfold up at h4
    split at h4
    · rename_i e1
      subst e1
      simp at h4
      subst h4
      rw [hi] at h5
      simp at h5
      obtain ⟨rfl, rfl⟩ := h5
      refine ⟨_, setOf h1 j u, _, rfl, by simpa using h2, fun m z hm => ?_⟩
      rw [ht] at hm
      split at hm
      · rename_i e2
        subst e2
        simp at hm
        subst hm
        obtain ⟨v, hv, _⟩ := h3 _ _ hj
        have := (Array.getElem?_eq_some_iff.1 hv).1
        exact ⟨u, by simp [this], hu⟩
      · rename_i e2
        obtain ⟨v, hv, hr⟩ := h3 _ _ hm
        exact ⟨v, by rw [Array.getElem?_setIfInBounds_ne (Ne.symm e2)]; exact hv, hr⟩
    · rename_i e1
      obtain ⟨ob1, h6, h7⟩ := h.obj b1 o1 k1 N1 h4 h5
      by_cases hk : k1 = k
      · subst hk
        cases o1 with
        | d => exact ⟨_, setOf h1 j u, trivial⟩
        | _ => exact absurd (h.inj b1 b _ _ _ _ _ h5 hi h4 hb (by simp) (by simp)) e1
      · exact ⟨ob1, setFar h6 hk u, h7⟩
def put (i : Inj) (b : Nat) (y : Nat × Nat) : Inj := fun j => if j = b then some y else i j
theorem Rel.le {w0 : Base} {i : Inj} {g : Nat → Option AO} {n : Nat} {w : World} (h : Rel w0 i g n w) (y : Nat × Nat) : Le i (put i n y) := fun b z hb => by
  have := h.dom b z hb
  unfold put
  rw [if_neg (by omega)]; exact hb
theorem Rel.alloc {w0 : Base} {i : Inj} {g : Nat → Option AO} {n : Nat} {w : World} (h : Rel w0 i g n w) {o : AO} {ob : Obj} (N : Nat) (ho : OR (put i n (w.heap.size, N)) N o ob) : Rel w0 (put i n (w.heap.size, N)) (up g n o) (n + 1) (w.alloc ob) := by
  refine ⟨h.mod.alloc ob, fun b y hb => ?_, fun b k M hb => ?_, fun b1 b2 k N1 N2 o1 o2 h1 h2 h3 h4 h5 h6 => ?_, fun b o1 k M h1 h2 => ?_, fun b hb => ?_⟩
  · unfold put at hb
    split at hb
    · omega
    · have := h.dom b y hb; omega
  · unfold put at hb
    split at hb
    · simp at hb
      have := h.mod.size
      simp
      omega
    · have := h.lo b k M hb
      simp
      omega
  · unfold put at h1 h2
    unfold up at h3 h4
    split at h1 <;> split at h2
    · omega
    · simp at h1; have := (h.lo b2 k _ h2).2; omega
    · simp at h2; have := (h.lo b1 k _ h1).2; omega
    · rename_i e1 e2
      rw [if_neg e1] at h3
      rw [if_neg e2] at h4
      exact h.inj b1 b2 k N1 N2 o1 o2 h1 h2 h3 h4 h5 h6
  · by_cases e : b = n
    · subst e
      simp [up] at h1
      simp [put] at h2
      obtain ⟨rfl, rfl⟩ := h2
      subst h1
      exact ⟨ob, allocNew w ob, ho⟩
    · simp only [up, if_neg e] at h1
      simp only [put, if_neg e] at h2
      obtain ⟨ob1, h3, h4⟩ := h.obj b o1 k M h1 h2
      exact ⟨ob1, allocFar h3, h4.mono (h.le _)⟩
  · obtain ⟨g1, g2⟩ := h.gh b hb
    exact ⟨by omega, by simp only [put, if_neg (show b ≠ n by omega)]; exact g2⟩
theorem Rel.late {w0 : Base} {i : Inj} {g : Nat → Option AO} {n : Nat} {w : World} {b : Nat} (h : Rel ⟨w0.w, fun x => w0.gh x ∨ x = b⟩ i g n w) (hg : ¬ w0.gh b) {o : AO} {ob : Obj} (N : Nat) (hb : g b = some o) (ho : OR (put i b (w.heap.size, N)) N o ob) : Rel w0 (put i b (w.heap.size, N)) g n (w.alloc ob) := by
  obtain ⟨hbn, hib⟩ := h.gh b (.inr rfl)
  have hle : Le i (put i b (w.heap.size, N)) := fun c z hc => by
    unfold put
    rw [if_neg (fun e => by subst e; rw [hib] at hc; cases hc)]
    exact hc
  refine ⟨h.mod.alloc ob, fun c y hc => ?_, fun c k M hc => ?_, fun b1 b2 k N1 N2 o1 o2 h1 h2 h3 h4 h5 h6 => ?_, fun c o1 k M h1 h2 => ?_, fun c hc => ?_⟩
  · unfold put at hc
    split at hc
    · omega
    · exact h.dom c y hc
  · unfold put at hc
    split at hc
    · simp at hc
      have := h.mod.size
      dsimp only at this
      simp
      omega
    · have := h.lo c k M hc
      dsimp only at this
      simp
      omega
  · unfold put at h1 h2
    split at h1 <;> split at h2
    · omega
    · simp at h1; have := (h.lo b2 k _ h2).2; omega
    · simp at h2; have := (h.lo b1 k _ h1).2; omega
    · exact h.inj b1 b2 k N1 N2 o1 o2 h1 h2 h3 h4 h5 h6
  · unfold put at h2
    split at h2
    · rename_i e
      subst e
      simp at h2
      obtain ⟨rfl, rfl⟩ := h2
      rw [hb] at h1
      simp at h1
      subst h1
      exact ⟨ob, allocNew w ob, ho⟩
    · obtain ⟨ob1, h3, h4⟩ := h.obj c o1 k M h1 h2
      exact ⟨ob1, allocFar h3, h4.mono hle⟩
  · obtain ⟨g1, g2⟩ := h.gh c (.inl hc)
    exact ⟨g1, by unfold put; rw [if_neg (fun e => by subst e; exact hg hc)]; exact g2⟩
end R
end Go.Proofs.YtcccdlmngddalaaGreat
