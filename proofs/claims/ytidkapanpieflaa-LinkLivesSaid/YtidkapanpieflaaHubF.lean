/- Things in memory, each with blocks of its own colour; maps by numbers. -/
import Derived.Test.YtidkapanpieflaaHubP
import Derived.Test.YtidkapanpieflaaBlk
namespace Go.Proofs.Ytidkapanpieflaa
open Go.RowKit
set_option linter.unusedVariables false
set_option linter.unusedSimpArgs false
section
variable {α : Type}
structure Kept (A : World → Nat → (Nat → Prop) → α → Prop) : Prop where
  keep : ∀ {w w' : World} {F f : Nat → Prop} {p : Nat} {x : α}, A w p f x → Mod F w w' → (∀ k, f k → ¬ F k) → A w' p f x
  mono : ∀ {w : World} {f f' : Nat → Prop} {p : Nat} {x : α}, A w p f x → (∀ k, f k → k < w.heap.size → f' k) → A w p f' x
abbrev Clr := Nat → Int ⊕ Nat
/-- new blocks get a colour -/
def dyed (c : Clr) (w : World) (t : Int ⊕ Nat) : Clr := fun k => if w.heap.size ≤ k then t else c k
theorem dyed_old {c : Clr} {w : World} {t : Int ⊕ Nat} {k : Nat} (h : k < w.heap.size) : dyed c w t k = c k := if_neg (by omega)
theorem dyed_new {c : Clr} {w : World} {t : Int ⊕ Nat} {k : Nat} (h : w.heap.size ≤ k) : dyed c w t k = t := if_pos h
def Fam (A : World → Nat → (Nat → Prop) → α → Prop) (nd : α → Int) (w : World) (c : Clr) (vbo : Int → Nat) (l : List α) : Prop :=
  ∀ x ∈ l, A w (vbo (nd x)) (fun k => c k = .inl (nd x)) x
variable {A : World → Nat → (Nat → Prop) → α → Prop} {nd : α → Int} {w w' : World} {F : Nat → Prop} {c : Clr} {vbo : Int → Nat} {l : List α}
theorem Fam.keep (hA : Kept A) (h : Fam A nd w c vbo l) (hm : Mod F w w') (hd : ∀ k n, c k = .inl n → ¬ F k) : Fam A nd w' c vbo l :=
  fun x hx => hA.keep (h x hx) hm fun k hk => hd k _ hk
theorem Fam.recol (hA : Kept A) (h : Fam A nd w c vbo l) {c' : Clr} (hc : ∀ k n, k < w.heap.size → c k = .inl n → c' k = .inl n) : Fam A nd w c' vbo l :=
  fun x hx => hA.mono (h x hx) fun k hk hl => hc k _ hl hk
theorem Fam.grow (hA : Kept A) (h : Fam A nd w c vbo l) (hm : Mod F w w') (hd : ∀ k n, c k = .inl n → ¬ F k) (t : Int ⊕ Nat) : Fam A nd w' (dyed c w t) vbo l := fun x hx => by
  have h1 := hA.keep (hA.mono (h x hx) (f' := fun k => c k = .inl (nd x) ∧ k < w.heap.size) fun k hk hl => ⟨hk, hl⟩) hm fun k hk => hd k _ hk.1
  exact hA.mono h1 fun k hk _ => by rw [dyed_old hk.2]; exact hk.1
theorem Fam.put (hA : Kept A) (h : Fam A nd w c vbo l) (hm : Mod F w w') {x : α} {vb : Nat} (hd : ∀ k n, c k = .inl n → n ≠ nd x → ¬ F k) (hx : A w' vb (fun k => c k = .inl (nd x) ∨ w.heap.size ≤ k) x) :
    Fam A nd w' (dyed c w (.inl (nd x))) (fun n => if n = nd x then vb else vbo n) (hput nd l x) := fun y hy => by
  rcases mem_hput.1 hy with rfl | ⟨hy, hne⟩
  · simp only [if_pos]
    refine hA.mono hx fun k hk _ => ?_
    by_cases hs : w.heap.size ≤ k
    · exact dyed_new hs
    · rcases hk with hk | hk
      · rw [dyed_old (by omega)]; exact hk
      · exact absurd hk hs
  · simp only [if_neg hne]
    have h1 := hA.keep (hA.mono (h y hy) (f' := fun k => c k = .inl (nd y) ∧ k < w.heap.size) fun k hk hl => ⟨hk, hl⟩) hm fun k hk => hd k _ hk.1 hne
    exact hA.mono h1 fun k hk _ => by rw [dyed_old hk.2]; exact hk.1
theorem Fam.del (h : Fam A nd w c vbo l) (n : Int) : Fam A nd w c vbo (hdel nd l n) := fun x hx => h x (mem_hdel.1 hx).1
end
theorem Row.dyeKeep {w w' : World} {c : Clr} {F : Nat → Prop} {e : TypeId} {sz n : Nat} {v : Value} {xs : List Value} {i : Int ⊕ Nat} (h : Row w (fun k => c k = i) e sz v n xs) (hm : Mod F w w') (hd : ∀ k, c k = i → ¬ F k) (t : Int ⊕ Nat) : Row w' (fun k => dyed c w t k = i) e sz v n xs :=
  (h.monoLt (f' := fun k => c k = i ∧ k < w.heap.size) (fun k hk hl => ⟨hk, hl⟩) |>.keep hm fun k hk => hd k hk.1).monoLt fun k hk _ => by rw [dyed_old hk.2]; exact hk.1
theorem lifeKept : Kept LifeAt := ⟨fun h hm hd => h.keep hm hd, fun h hf => h.mono hf⟩
theorem rlifeKept : Kept RLifeAt := ⟨fun h hm hd => h.keep hm hd, fun h hf => h.mono hf⟩
/- maps by numbers -/
theorem mget_mput (k : Int) (v : Value) (n : Int) : ∀ m : List (Int × Value), mget (mput m k v) n = if n = k then some v else mget m n
  | [] => by
    by_cases h : n = k
    · subst h; simp [mput, mget]
    · simp [mput, mget, h, Ne.symm h]
  | (a, b) :: r => by
    have ih := mget_mput k v n r
    unfold mget at ih ⊢
    unfold mput
    by_cases ha : a = k
    · subst ha
      rw [if_pos rfl]
      by_cases h : n = a
      · subst h; simp
      · have : (a == n) = false := by simp; exact fun e => h e.symm
        simp [this, h]
    · rw [if_neg ha]
      by_cases h : n = a
      · subst h; simp [ha]
      · have : (a == n) = false := by simp; exact fun e => h e.symm
        simp only [List.find?_cons, this]
        exact ih
theorem mget_isSome {m : List (Int × Value)} {k : Int} : (mget m k).isSome ↔ k ∈ m.map (·.1) := by
  unfold mget
  rw [Option.isSome_map, List.find?_isSome, List.mem_map]
  constructor
  · rintro ⟨x, hx, h⟩; exact ⟨x, hx, by simpa using h⟩
  · rintro ⟨x, hx, rfl⟩; exact ⟨x, hx, by simp⟩
theorem mget_mdel (k n : Int) : ∀ m : List (Int × Value), (m.map (·.1)).Nodup → mget (mdel m k) n = if n = k then none else mget m n
  | [], _ => by simp [mdel, mget]
  | (a, b) :: r, hn => by
    rw [List.map_cons, List.nodup_cons] at hn
    have ih := mget_mdel k n r hn.2
    unfold mdel
    by_cases ha : a = k
    · subst ha
      rw [if_pos rfl]
      by_cases h : n = a
      · subst h
        rw [if_pos rfl]
        have : ¬ (mget r n).isSome := fun h => hn.1 (mget_isSome.1 h)
        simpa using this
      · have : (a == n) = false := by simp; exact fun e => h e.symm
        rw [if_neg h]
        simp [mget, this]
    · rw [if_neg ha]
      unfold mget at ih ⊢
      by_cases h : n = a
      · subst h; simp [ha]
      · have : (a == n) = false := by simp; exact fun e => h e.symm
        simp only [List.find?_cons, this]
        exact ih
theorem mput_keys (k : Int) (v : Value) : ∀ m : List (Int × Value), (m.map (·.1)).Nodup → ((mput m k v).map (·.1)).Nodup
  | [], _ => by simp [mput]
  | (a, b) :: r, hn => by
    unfold mput
    rw [List.map_cons, List.nodup_cons] at hn
    by_cases ha : a = k
    · subst ha
      rw [if_pos rfl, List.map_cons, List.nodup_cons]
      exact hn
    · rw [if_neg ha, List.map_cons, List.nodup_cons]
      refine ⟨fun h => ?_, mput_keys k v r hn.2⟩
      have h2 := mget_isSome.2 h
      rw [mget_mput, if_neg ha] at h2
      exact hn.1 (mget_isSome.1 h2)
theorem mdel_keys (k : Int) : ∀ m : List (Int × Value), (m.map (·.1)).Nodup → ((mdel m k).map (·.1)).Nodup
  | [], _ => by simp [mdel]
  | (a, b) :: r, hn => by
    unfold mdel
    rw [List.map_cons, List.nodup_cons] at hn
    by_cases ha : a = k
    · rw [if_pos ha]; exact hn.2
    · rw [if_neg ha, List.map_cons, List.nodup_cons]
      refine ⟨fun h => ?_, mdel_keys k r hn.2⟩
      have h2 := mget_isSome.2 h
      rw [mget_mdel k a r hn.2, if_neg ha] at h2
      exact hn.1 (mget_isSome.1 h2)
def KM (w : World) (b : Nat) (V : Int → Option Value) : Prop := ∃ m, Mp w b .i64 m ∧ (m.map (·.1)).Nodup ∧ ∀ k, mget m k = V k
section
variable {P : Program} {w w' : World} {b : Nat} {V V' : Int → Option Value}
theorem KM.keep {F : Nat → Prop} (h : KM w b V) (hm : Mod F w w') (hn : ¬ F b) : KM w' b V := by
  obtain ⟨m, h1, h2, h3⟩ := h; exact ⟨m, h1.keep hm hn, h2, h3⟩
theorem KM.lt (h : KM w b V) : b < w.heap.size := by obtain ⟨m, h1, _⟩ := h; exact h1.lt
theorem KM.to (h : KM w b V) (e : ∀ k, V k = V' k) : KM w b V' := by obtain ⟨m, h1, h2, h3⟩ := h; exact ⟨m, h1, h2, fun k => (h3 k).trans (e k)⟩
theorem KM.made (w : World) : KM (w.alloc (.map #[] 0)) w.heap.size fun _ => none := ⟨[], Mp.made w _, List.nodup_nil, fun _ => rfl⟩
theorem KM.run_lookup {t kt et : TypeId} {z : Value} (h : KM w b V) (ht : P.underlying t = some (.map kt et)) (hk : P.underlying kt = some (.int .i64)) (hz : ∀ w, (zeroValue et).run P w = .ok z w) (k : Int) (ok : Bool) :
    (Instr.lookup t (.map (some b)) (.int .i64 k) ok).run P w = .ok (if ok then .tuple #[(V k).getD z, .bool (V k).isSome] else (V k).getD z) w := by
  obtain ⟨m, h1, h2, h3⟩ := h
  rw [← h3 k]
  exact run_lookup_mp ht hk hz h1 k ok
theorem KM.exec_lookup {o : Oper} {ev : Operand → Value} {t kt et : TypeId} {z : Value} (h : KM w b V) (ht : P.underlying t = some (.map kt et)) (hk : P.underlying kt = some (.int .i64)) (hz : ∀ w, (zeroValue et).run P w = .ok z w) {x i : Operand} {ok : Bool}
    (ho : o.op = .lookup t x i ok) {k : Int} (hx : ev x = .map (some b)) (hi : ev i = .int .i64 k) :
    (execOp ev o).run P w = .ok (.value (if ok then .tuple #[(V k).getD z, .bool (V k).isSome] else (V k).getD z)) w := by
  have := h.run_lookup ht hk hz k ok
  simp only [execOp, ho, hx, hi, Sem.run_bind, this, Result.andThen]
  rfl
theorem wp_update_km {o : Oper} {a : Act} {K : Act → World → Prop} {Q : Exit → Act → World → Prop} {t kt et : TypeId} (ht : P.underlying t = some (.map kt et)) (hk : P.underlying kt = some (.int .i64)) {mo ko vo : Operand}
    (ho : o.op = .mapUpdate t mo ko vo) {k : Int} {v : Value} (hm : a.eval mo = .map (some b)) (hko : a.eval ko = .int .i64 k) (hv : a.eval vo = v) (h : KM w b V)
    (hK : ∀ w', Hid (KM w' b (fun n => if n = k then some v else V n)) → Hid (Mod (fun x => x = b) w w') → K (a.put o.dst undef) w') : o.wp P a w K Q := by
  obtain ⟨m, h1, h2, h3⟩ := h
  refine wp_update_mp ht hk ho hm hko hv h1 fun w' h4 h5 => hK w' (Lib.hid ⟨_, h4, mput_keys k v m h2, fun n => ?_⟩) (Lib.hid h5)
  rw [mget_mput, h3]
theorem KM.run_delete {t kt et ty u : TypeId} (h : KM w b V) (ht : P.underlying t = some (.map kt et)) (hk : P.underlying kt = some (.int .i64)) (k : Int) :
    ∃ w', (Builtin.delete_ #[t, u] ty #[.map (some b), .int .i64 k]).run P w = .ok (.tuple #[]) w' ∧ KM w' b (fun n => if n = k then none else V n) ∧ Mod (fun x => x = b) w w' := by
  obtain ⟨m, h1, h2, h3⟩ := h
  obtain ⟨w', hr, h4, h5⟩ := run_delete_mp (P := P) (ty := ty) (u := u) ht hk h1 k
  refine ⟨w', hr, ⟨_, h4, mdel_keys k m h2, fun n => ?_⟩, h5⟩
  rw [mget_mdel k n m h2, h3]
theorem wp_delete_km {o : Oper} {a : Act} {K : Act → World → Prop} {Q : Exit → Act → World → Prop} {t kt et u : TypeId} (ht : P.underlying t = some (.map kt et)) (hk : P.underlying kt = some (.int .i64)) {mo ko : Operand}
    (ho : o.op = .call { callee := .builtin .delete, args := #[mo, ko], argTypes := #[t, u] }) {k : Int} (hm : a.eval mo = .map (some b)) (hko : a.eval ko = .int .i64 k) (h : KM w b V)
    (hK : ∀ w', Hid (KM w' b (fun n => if n = k then none else V n)) → Hid (Mod (fun x => x = b) w w') → K (a.put o.dst (.tuple #[])) w') : o.wp P a w K Q := by
  obtain ⟨m, h1, h2, h3⟩ := h
  refine wp_delete_mp ht hk ho hm hko h1 fun w' h4 h5 => hK w' (Lib.hid ⟨_, h4, mdel_keys k m h2, fun n => ?_⟩) (Lib.hid h5)
  rw [mget_mdel k n m h2, h3]
end
end Go.Proofs.Ytidkapanpieflaa
