/- Maps with addresses as keys: read back; maps.DeleteFunc with a closure that changes what the entries point to. -/
import Derived.Test.YtcccdlmngddalaaGreatGrB
import Derived.MapKept
import Derived.Maps.OwnOps
import Derived.Maps.RangeWalk
import Derived.Maps.Ext
import Derived.DeepKeys4
import Derived.Lib.SlMapFilter
import Derived.Test.YtcccdlmngddalaaGreatGrV
import Derived.WalkKit
import Derived.Laws.IdiomRangeMap
import Derived.Deep.LoopGhost
set_option linter.unusedVariables false
set_option linter.unusedSimpArgs false
namespace Go.Proofs.YtcccdlmngddalaaGreat
open Go.RowKit Go.MapKept Go.Maps
def Ad.kv (a : Ad) : Value := .agg a.c.toArray
theorem Ad.kv_inj {a b : Ad} (h : a.kv = b.kv) : a = b := by
  have h1 : a.c = b.c := by
    have := (Value.agg.inj h)
    simpa using congrArg Array.toList this
  unfold Ad.c adrC at h1
  simp only [List.cons.injEq, Value.bool.injEq] at h1
  exact Ad.ext' h1.1 ((List.map_inj_right (fun x y e => by injection e)).1 h1.2)
theorem eraseMap {α β : Type} (f : α → β) : ∀ (l : List α) (i : Nat), (l.eraseIdx i).map f = (l.map f).eraseIdx i
  | [], _ => rfl
  | _ :: _, 0 => rfl
  | a :: l, i + 1 => by rw [List.eraseIdx_cons_succ, List.map_cons, List.map_cons, List.eraseIdx_cons_succ, eraseMap f l i]
def mgetA (m : List (Ad × Value)) (k : Ad) : Option Value := (m.find? fun p => p.1 == k).map (·.2)
def mputA : List (Ad × Value) → Ad → Value → List (Ad × Value)
  | [], k, v => [(k, v)]
  | (k', v') :: r, k, v => if k' = k then (k, v) :: r else (k', v') :: mputA r k v
def mdelA : List (Ad × Value) → Ad → List (Ad × Value)
  | [], _ => []
  | (k', v') :: r, k => if k' = k then r else (k', v') :: mdelA r k
def Ma (w : World) (b : Nat) (m : List (Ad × Value)) : Prop :=
  ∃ es clock, w.heap[b]? = some (.map es clock) ∧ es.toList.map (fun e => (e.key, e.val)) = m.map (fun p => (p.1.kv, p.2)) ∧ MapKept.Stamped es clock
theorem Ma.made (w : World) : Ma (w.alloc (.map #[] 0)) w.heap.size [] := ⟨#[], 0, allocNew w _, rfl, MapKept.stamped_empty 0⟩
theorem Ma.lt {w : World} {b : Nat} {m : List (Ad × Value)} (h : Ma w b m) : b < w.heap.size := by
  obtain ⟨es, c, hb, _⟩ := h; exact lt_of_block hb
theorem Ma.keep {w w' : World} {F : Nat → Prop} {b : Nat} {m : List (Ad × Value)} (h : Ma w b m) (hm : Mod F w w') (hn : ¬ F b) : Ma w' b m := by
  obtain ⟨es, c, hb, hx⟩ := h; exact ⟨es, c, hm.keep hb hn, hx⟩
theorem Ma.ne {w : World} {b : Nat} {m : List (Ad × Value)} (h : Ma w b m) {p : Nat} {cs : Array Value} {t : TypeId} {z : Nat × Nat} (hp : w.heap[p]? = some (.cells cs t z)) : b ≠ p := by
  rintro rfl
  obtain ⟨es, c, hb, _⟩ := h
  rw [hb] at hp; cases hp
theorem Ma.notA {w : World} {b : Nat} {m : List (Ad × Value)} (h : Ma w b m) : NotA w (fun k => k = b) := fun k hk cur z e => by
  subst hk
  obtain ⟨es, c, hb, _⟩ := h
  rw [hb] at e
  cases e
theorem Ma.nd {w : World} {b : Nat} {m : List (Ad × Value)} (h : Ma w b m) : (m.map (·.1)).Nodup := by
  obtain ⟨es, c, hb, hx, hst⟩ := h
  have h3 : (es.toList.map (·.key)).Pairwise (· ≠ ·) := by rw [List.pairwise_map]; exact ((stamped_iff es c).1 hst).2.2
  have e : es.toList.map (·.key) = m.map fun p => p.1.kv := by
    have := congrArg (List.map (·.1)) hx
    simpa [List.map_map, Function.comp_def] using this
  rw [e, List.pairwise_map] at h3
  unfold List.Nodup
  rw [List.pairwise_map]
  exact h3.imp fun h e => h (by rw [e])
theorem mgetA_none {m : List (Ad × Value)} {k : Ad} (h : ∀ p ∈ m, p.1 ≠ k) : mgetA m k = none ∧ (∀ v, mputA m k v = m ++ [(k, v)]) ∧ mdelA m k = m := by
  induction m with
  | nil => exact ⟨rfl, fun _ => rfl, rfl⟩
  | cons p m ih =>
    obtain ⟨k', v'⟩ := p
    have hk : k' ≠ k := h _ List.mem_cons_self
    obtain ⟨h1, h2, h3⟩ := ih fun p hp => h p (List.mem_cons_of_mem _ hp)
    refine ⟨?_, fun v => ?_, ?_⟩
    · unfold mgetA at h1 ⊢
      rw [List.find?_cons_of_neg (by simpa using hk)]
      exact h1
    · rw [mputA, if_neg hk, h2]; rfl
    · rw [mdelA, if_neg hk, h3]
theorem mgetA_some : ∀ {m : List (Ad × Value)} {k : Ad} {v0 : Value} {j : Nat}, (m.map (·.1)).Nodup → m[j]? = some (k, v0) → mgetA m k = some v0 ∧ (∀ v, m.set j (k, v) = mputA m k v) ∧ m.eraseIdx j = mdelA m k
  | [], k, v0, j, _, h => by simp at h
  | (k', v') :: m, k, v0, 0, hn, h => by
    simp only [List.getElem?_cons_zero, Option.some.injEq, Prod.mk.injEq] at h
    obtain ⟨rfl, rfl⟩ := h
    exact ⟨by simp [mgetA], fun v => by simp [mputA], by simp [mdelA]⟩
  | (k', v') :: m, k, v0, j + 1, hn, h => by
    rw [List.getElem?_cons_succ] at h
    rw [List.map_cons, List.nodup_cons] at hn
    have hk : k' ≠ k := fun e => hn.1 (by rw [e]; exact List.mem_map_of_mem (f := (·.1)) (List.mem_of_getElem? h))
    obtain ⟨h1, h2, h3⟩ := mgetA_some hn.2 h
    refine ⟨?_, fun v => ?_, ?_⟩
    · unfold mgetA at h1 ⊢
      rw [List.find?_cons_of_neg (by simpa using hk)]
      exact h1
    · rw [List.set_cons_succ, mputA, if_neg hk, h2]
    · rw [List.eraseIdx_cons_succ, mdelA, if_neg hk, h3]
section
variable {P : Program} {kt : TypeId} (K : Keyed P kt) (hkk : ∀ a : Ad, ∃ l, keyOf P kt a.kv = some l)
include K hkk
theorem findA (w : World) {es : Array MapEntry} {m : List (Ad × Value)} (hnd : (m.map (·.1)).Nodup) (hx : es.toList.map (fun e => (e.key, e.val)) = m.map (fun p => (p.1.kv, p.2))) (k : Ad) :
    (mgetA m k = none ∧ (∀ v, mputA m k v = m ++ [(k, v)]) ∧ mdelA m k = m ∧ (∀ x ∈ es.toList, x.key ≠ k.kv) ∧ (Instr.findKey kt k.kv es.toList).run P w = .ok none w) ∨
    ∃ j e, (Instr.findKey kt k.kv es.toList).run P w = .ok (some (j, e.val)) w ∧ es.toList[j]? = some e ∧ e.key = k.kv ∧ mgetA m k = some e.val ∧
      (∀ v, (es.toList.set j { e with val := v }).map (fun e => (e.key, e.val)) = (mputA m k v).map (fun p => (p.1.kv, p.2))) ∧
      (es.toList.eraseIdx j).map (fun e => (e.key, e.val)) = (mdelA m k).map (fun p => (p.1.kv, p.2)) := by
  obtain ⟨lx, hlx⟩ := hkk k
  have hall : ∀ e ∈ es.toList, ∃ p ∈ m, e.key = p.1.kv ∧ e.val = p.2 := fun e he => by
    have hm : (e.key, e.val) ∈ m.map fun p => (p.1.kv, p.2) := by rw [← hx]; exact List.mem_map_of_mem he
    obtain ⟨p, hp, hpe⟩ := List.mem_map.1 hm
    injection hpe with e1 e2
    exact ⟨p, hp, e1.symm, e2.symm⟩
  rcases K.find w hlx es.toList (fun e he => by obtain ⟨p, _, e1, _⟩ := hall e he; rw [e1]; exact hkk p.1) with ⟨h1, h2⟩ | ⟨j, e, h1, h2, h3⟩
  · have hno : ∀ p ∈ m, p.1 ≠ k := fun p hp e => by
      have hm : (p.1.kv, p.2) ∈ es.toList.map fun e => (e.key, e.val) := by rw [hx]; exact List.mem_map_of_mem (f := fun p : Ad × Value => (p.1.kv, p.2)) hp
      obtain ⟨x, hx', hxe⟩ := List.mem_map.1 hm
      injection hxe with e1 e2
      exact h2 x hx' (by rw [e1, e])
    obtain ⟨a1, a2, a3⟩ := mgetA_none hno
    exact .inl ⟨a1, a2, a3, h2, h1⟩
  · have hj := congrArg (fun l => l[j]?) hx
    simp only [List.getElem?_map, h2, Option.map_some] at hj
    cases hmj : m[j]? with
    | none => rw [hmj] at hj; simp at hj
    | some p =>
      rw [hmj] at hj
      simp only [Option.map_some, Option.some.injEq, Prod.mk.injEq] at hj
      obtain ⟨k', v'⟩ := p
      have hk : k' = k := Ad.kv_inj (by rw [← h3, hj.1])
      subst hk
      obtain ⟨a1, a2, a3⟩ := mgetA_some hnd hmj
      refine .inr ⟨j, e, h1, h2, h3, by rw [a1, hj.2], fun v => ?_, ?_⟩
      · rw [← a2, List.map_set, List.map_set, hx]
        simp only [h3]
      · rw [← a3, eraseMap, eraseMap, hx]
variable {t et : TypeId} (ht : P.underlying t = some (.map kt et))
include ht
theorem run_lookup_ma {z : Value} (hz : ∀ w, (zeroValue et).run P w = .ok z w) {w : World} {b : Nat} {m : List (Ad × Value)} (h : Ma w b m) (k : Ad) (ok : Bool) :
    (Instr.lookup t (.map (some b)) k.kv ok).run P w = .ok (if ok then .tuple #[(mgetA m k).getD z, .bool (mgetA m k).isSome] else (mgetA m k).getD z) w := by
  have hnd := h.nd
  obtain ⟨es, c, hb, hx, hst⟩ := h
  obtain ⟨lx, hlx⟩ := hkk k
  have hck : ∀ em, (Instr.checkKey em 10000 kt k.kv).run P w = .ok () w := fun em => K.check w em hlx
  rcases findA K hkk w hnd hx k with ⟨a1, _, _, _, a4⟩ | ⟨j, e, a1, a2, a3, a4, _, _⟩
  · simp [Instr.lookup, run_underlying ht, MapKept.run_getObj_map hb, hck, a4, hz, a1, Result.andThen]
  · simp [Instr.lookup, run_underlying ht, MapKept.run_getObj_map hb, hck, a1, a4, Result.andThen]
theorem run_update_ma {w : World} {b : Nat} {m : List (Ad × Value)} (h : Ma w b m) (k : Ad) (v : Value) :
    ∃ w', (Instr.mapUpdate t (.map (some b)) k.kv v).run P w = .ok () w' ∧ Ma w' b (mputA m k v) ∧ Mod (fun x => x = b) w w' := by
  have hnd := h.nd
  obtain ⟨es, c, hb, hx, hst⟩ := h
  obtain ⟨lx, hlx⟩ := hkk k
  have hck : ∀ em, (Instr.checkKey em 10000 kt k.kv).run P w = .ok () w := fun em => K.check w em hlx
  have hks : (Instr.keyThatStays k.kv k.kv).run P w = .ok k.kv w := K.stays w hlx
  have mod : ∀ o, Mod (fun x => x = b) w { w with heap := w.heap.setIfInBounds b o } := fun o => ⟨rfl, rfl, rfl, by simp, fun k' _ hk' => (heap_set (o' := o) hb).2 k' hk'⟩
  rcases findA K hkk w hnd hx k with ⟨a1, a2, _, a3, a4⟩ | ⟨j, e, a1, a2, a3, a4, a5, _⟩
  · refine ⟨_, by simp [Instr.mapUpdate, run_underlying ht, MapKept.run_getObj_map hb, hck, a4, MapKept.run_setObj_map _ hb, Result.andThen] <;> rfl, ⟨_, _, (heap_set hb).1, ?_, MapKept.stamped_push hst a3⟩, mod _⟩
    rw [a2]
    simp [hx]
  · have hj : es[j]? = some e := by simpa using a2
    refine ⟨_, by simp [Instr.mapUpdate, run_underlying ht, MapKept.run_getObj_map hb, hck, a1, hj, a3, hks, MapKept.run_setObj_map _ hb, Result.andThen] <;> rfl, ⟨_, _, (heap_set hb).1, ?_, MapKept.stamped_modify hst j (fun e => { e with key := k.kv, val := v }) (fun _ _ => rfl) (fun x _ hx' => ?_)⟩, mod _⟩
    · rw [← a5 v]
      have : (es.modify j fun e => { e with key := k.kv, val := v }).toList = es.toList.set j { e with val := v } := by
        apply List.ext_getElem?
        intro i
        rw [List.getElem?_set]
        simp only [Array.getElem?_toList, Array.getElem?_modify]
        by_cases hij : j = i
        · subst hij
          have hlt : j < es.toList.length := by simpa using (Array.getElem?_eq_some_iff.1 hj).1
          rw [if_pos rfl, if_pos rfl, if_pos hlt, hj]
          simp [← a3]
        · rw [if_neg hij, if_neg hij]
      rw [this]
    · rw [hj] at hx'; cases hx'; exact a3.symm
omit K hkk in
theorem run_len_ma {ty : TypeId} {w : World} {b : Nat} {m : List (Ad × Value)} (h : Ma w b m) :
    (Builtin.len_ #[t] ty #[.map (some b)]).run P w = .ok (.int .i64 m.length) w := by
  obtain ⟨es, c, hb, hx, hst⟩ := h
  have hl : es.size = m.length := by have := congrArg List.length hx; simpa using this
  simp [Builtin.len_, run_underlying ht, MapKept.run_getObj_map hb, Result.andThen, hl, goInt]
end
/- this program's -/
theorem Tryz.adrRow : 36 < Tryz.prog.types.size := of_decide_eq_true (by kernel_rfl)
theorem Tryz.adrWide : (match Tryz.prog.underlying 36 with | some (.array _ _) | some (.struct _) => true | _ => false) = true := by kernel_rfl
theorem laidOutA : laidOutB Tryz.prog = true := by kernel_rfl
set_option maxRecDepth 100000 in
theorem adrKeyed : Keyed Tryz.prog 36 := Keyed.of_law (deep_law_laid laidOutA (m := 3) (by omega) Tryz.adrRow (by kernel_rfl) Tryz.adrWide)
theorem mapM_some {α β : Type} {f : α → Option β} : ∀ (l : List α), (∀ x ∈ l, ∃ y, f x = some y) → ∃ ys, l.mapM f = some ys
  | [], _ => ⟨[], rfl⟩
  | a :: l, h => by
    obtain ⟨y, hy⟩ := h a List.mem_cons_self
    obtain ⟨ys, hys⟩ := mapM_some l fun x hx => h x (List.mem_cons_of_mem _ hx)
    exact ⟨y :: ys, by rw [List.mapM_cons, hy, hys]; rfl⟩
theorem lits1 (d : Nat) (v : Bool) : ∃ l, Tryz.prog.keyLits (d + 1) 4 [.bool v] = some l := ⟨[.bool v], by
  unfold Program.keyLits
  rw [Tryz.underlying4]⟩
theorem lits8 (d : Nat) {n : Int} (h : 0 ≤ n ∧ n < 256) : ∃ l, Tryz.prog.keyLits (d + 1) 5 [.int .u8 n] = some l := ⟨[.int .u8 n], by
  unfold Program.keyLits
  rw [Tryz.underlying5]
  simp only
  rw [if_pos (by simp [Lit.wf, IntKind.min, IntKind.max, IntKind.bits, IntKind.signed]; omega)]⟩
theorem litsArr (d : Nat) {b : List Int} (hb : adrOk b) : ∃ l, Tryz.prog.keyLits (d + 2) 34 (b.map (.int .u8)) = some l := by
  obtain ⟨ys, hys⟩ := mapM_some (f := fun i => Tryz.prog.keyLits (d + 1) 5 (((b.map (Value.int .u8)).drop (i * Tryz.prog.cellsOf 5)).take (Tryz.prog.cellsOf 5))) (List.range 16) fun i hi => by
    have h16 := List.mem_range.1 hi
    rw [show Tryz.prog.cellsOf 5 = 1 from by kernel_rfl, Nat.mul_one]
    have hl : i < b.length := by rw [hb.1]; exact h16
    obtain ⟨l, h⟩ := lits8 d (hb.2 _ (List.getElem_mem hl))
    refine ⟨l, ?_⟩
    rw [List.drop_eq_getElem_cons (by simpa using hl)]
    simpa using h
  refine ⟨ys.flatten, ?_⟩
  unfold Program.keyLits
  rw [Tryz.underlying34]
  simp only
  rw [if_pos (by rw [show Tryz.prog.cellsOf 34 = 16 from by kernel_rfl, List.length_map, hb.1])]
  exact congrArg (Option.map List.flatten) hys
theorem litsAdr (d : Nat) (a : Ad) : ∃ l, Tryz.prog.keyLits (d + 3) 36 a.c = some l := by
  obtain ⟨l1, h1⟩ := lits1 (d + 1) a.v
  obtain ⟨l2, h2⟩ := litsArr d a.ok
  have hd : (a.c.drop 1).take 16 = a.b.map (.int .u8) := by
    show (a.b.map (Value.int .u8)).take 16 = _
    rw [List.take_of_length_le (by rw [List.length_map, a.ok.1]; exact Nat.le_refl _)]
  have c1 : Tryz.prog.cellsOf 4 = 1 := by kernel_rfl
  have c2 : Tryz.prog.cellsOf 34 = 16 := by kernel_rfl
  refine ⟨[l1, l2].flatten, ?_⟩
  unfold Program.keyLits
  rw [Tryz.underlying36]
  simp only
  rw [if_pos ⟨by rw [show Tryz.prog.cellsOf 36 = 17 from by kernel_rfl, a.c_len], by simp⟩]
  simp only [List.mapM_cons, List.mapM_nil, c1, c2, List.drop_zero, hd]
  rw [show a.c.take 1 = [.bool a.v] from rfl, h1, h2]
  rfl
theorem adrKey (a : Ad) : ∃ l, keyOf Tryz.prog 36 a.kv = some l := by
  obtain ⟨d, hd⟩ : ∃ d, Tryz.prog.types.size + 1 = d + 3 := ⟨Tryz.prog.types.size + 1 - 3, by have := Tryz.adrRow; omega⟩
  obtain ⟨l, hl⟩ := litsAdr d a
  refine ⟨.string (keyBytes l), ?_⟩
  unfold keyOf
  rw [Tryz.underlying36]
  simp only
  rw [if_pos (by
    rw [Bool.and_eq_true]
    refine ⟨by kernel_rfl, ?_⟩
    unfold Ad.kv Value.formed
    rw [Tryz.underlying36]
    simp only
    rw [show Tryz.prog.cellsOf 36 = 17 from by kernel_rfl]
    simp [a.c_len])]
  rw [hd]
  show (Tryz.prog.keyLits (d + 3) 36 a.c).map _ = _
  rw [hl]
  rfl
end Go.Proofs.YtcccdlmngddalaaGreat
namespace Go.Proofs.YtcccdlmngddalaaGreat
open Go.RowKit Go.MapKept Go.Maps Go.WideShapes
noncomputable def litA (a : Ad) : Lit := Classical.choose (adrKey a)
theorem litA_eq (a : Ad) : keyOf Tryz.prog 36 a.kv = some (litA a) := Classical.choose_spec (adrKey a)
theorem litA_inj {a b : Ad} (h : litA a = litA b) : a = b := by
  have h2 := litA_eq b
  rw [← h] at h2
  exact Ad.kv_inj (adrKeyed.inj (litA_eq a) h2)
theorem litA_key (a : Ad) : WideAt.IsKeyLit (litA a) := adrKeyed.key (litA_eq a)
section
variable {H : Type}
def Rp (v : Value) : Option (DataW H × List MemPlace) :=
  match v with
  | .pointer (some ⟨g, 0, none⟩) => some (.lit (.int .u64 g), [])
  | _ => none
def PtrV (v : Value) : Prop := ∃ g : Nat, v = .pointer (some ⟨g, 0, none⟩)
theorem Rp_ptr {v : Value} {y : DataW H × List MemPlace} (h : Rp v = some y) : ∃ g : Nat, v = .pointer (some ⟨g, 0, none⟩) ∧ y = (.lit (.int .u64 g), []) := by
  unfold Rp at h
  split at h
  · cases h; exact ⟨_, rfl, rfl⟩
  · cases h
noncomputable def enA (p : Ad × Value) : Lit × DataW H := (litA p.1, ((Rp p.2).map (·.1)).getD .nil)
theorem Ma.owns {w : World} {b : Nat} {m : List (Ad × Value)} (h : Ma w b m) (hv : ∀ p ∈ m, PtrV p.2) (hl : m.length ≤ maxLen) :
    ∃ l : List (Lit × DataW H), w.ownsMap Tryz.prog 36 Rp b m.length (.map l) ∧ l.Perm (m.map enA) := by
  obtain ⟨es, c, hb, hx, hst⟩ := h
  have hsz : es.size = m.length := by have := congrArg List.length hx; simpa using this
  have rd : ∀ x ∈ es.toList, ∃ p ∈ m, x.key = p.1.kv ∧ x.val = p.2 ∧ WideElems.rd Tryz.prog 36 (Rp (H := H)) x = some (enA p) := fun x hx' => by
    have hm : (x.key, x.val) ∈ m.map fun p => (p.1.kv, p.2) := by rw [← hx]; exact List.mem_map_of_mem hx'
    obtain ⟨p, hp, hpe⟩ := List.mem_map.1 hm
    injection hpe with e1 e2
    obtain ⟨g, eg⟩ := hv p hp
    refine ⟨p, hp, e1.symm, e2.symm, ?_⟩
    unfold WideElems.rd
    rw [← e1, litA_eq, ← e2, eg]
    simp [enA, eg, Rp]
  refine ⟨_, ⟨es, c, hb, ⟨by omega, hst, fun x hx' => ?_⟩, by omega, rfl⟩, ?_⟩
  · obtain ⟨p, _, _, _, h⟩ := rd x hx'
    exact ⟨_, h⟩
  · refine (sorted_perm _).trans ?_
    have : es.toList.map (WideElems.rg Tryz.prog 36 (Rp (H := H))) = m.map enA := by
      apply List.ext_getElem
      · simp; exact hsz
      · intro i h1 h2
        simp only [List.getElem_map]
        have hi : i < es.toList.length := by simpa using h1
        have hi2 : i < m.length := by simpa using h2
        have he := congrArg (fun l => l[i]?) hx
        simp only [List.getElem?_map, List.getElem?_eq_getElem hi, List.getElem?_eq_getElem hi2, Option.map_some, Option.some.injEq, Prod.mk.injEq] at he
        obtain ⟨g, eg⟩ := hv m[i] (List.getElem_mem _)
        unfold WideElems.rg WideElems.rd
        rw [he.1, litA_eq, he.2, eg]
        simp [enA, eg, Rp]
    rw [this]
theorem enA_mem {m : List (Ad × Value)} {ml : List (Lit × DataW H)} (hv : ∀ p ∈ m, PtrV p.2) (hp : ml.Perm (m.map enA)) (hap : ml.Pairwise (fun p q => p.1 ≠ q.1)) {kl : Lit} {g : Nat} (hh : Maps.has (.map ml) kl = true) (hat : ∀ zd, (DataW.map ml).atKey kl zd = .lit (.int .u64 g)) :
    ∃ p ∈ m, kl = litA p.1 ∧ p.2 = .pointer (some ⟨g, 0, none⟩) := by
  rw [has_eq, List.any_eq_true] at hh
  obtain ⟨q, hq, hs⟩ := hh
  obtain ⟨p, hpm, rfl⟩ := List.mem_map.1 (hp.mem_iff.1 hq)
  have hk : litA p.1 = kl := WideAt.sameKey_eq hs
  subst hk
  refine ⟨p, hpm, rfl, ?_⟩
  obtain ⟨g', eg⟩ := hv p hpm
  have h1 := WideAt.atKey_mem (k := litA p.1) (d := .lit (.int .u64 (g' : Int))) (.nil : DataW H) (litA_key p.1) hap (by
    have : enA p = (litA p.1, DataW.lit (H := H) (.int .u64 (g' : Int))) := by simp [enA, eg, Rp]
    rw [← this]; exact hq)
  rw [hat] at h1
  injection h1 with h1
  injection h1 with _ h1
  have : g = g' := by omega
  rw [eg, this]
end
structure ColA (m s : List (Ad × Value)) (left : Lit → Bool) : Prop where
  sub : ∀ p ∈ s, p ∈ m
  nd : (s.map (·.1)).Nodup
  lf : ∀ a, left (litA a) = true ↔ a ∈ m.map (·.1) ∧ a ∉ s.map (·.1)
theorem has_enA {H : Type} {m : List (Ad × Value)} {ml : List (Lit × DataW H)} (hp : ml.Perm (m.map enA)) (a : Ad) : Maps.has (.map ml) (litA a) = true ↔ a ∈ m.map (·.1) := by
  rw [has_eq, List.any_eq_true]
  constructor
  · rintro ⟨q, hq, hs⟩
    obtain ⟨p, hpm, rfl⟩ := List.mem_map.1 (hp.mem_iff.1 hq)
    have hk : litA p.1 = litA a := WideAt.sameKey_eq hs
    rw [← litA_inj hk]
    exact List.mem_map_of_mem hpm
  · intro h
    obtain ⟨p, hpm, rfl⟩ := List.mem_map.1 h
    exact ⟨enA p, hp.mem_iff.2 (List.mem_map_of_mem hpm), WideAt.sameKey_self (litA_key p.1)⟩
theorem ColA.start {H : Type} {m : List (Ad × Value)} {ml : List (Lit × DataW H)} (hp : ml.Perm (m.map enA)) : ColA m [] (Maps.has (.map ml)) :=
  ⟨fun p hp => (by cases hp), List.nodup_nil, fun a => by rw [has_enA hp]; simp⟩
theorem ColA.step {m s : List (Ad × Value)} {left : Lit → Bool} (h : ColA m s left) {p : Ad × Value} (hpm : p ∈ m) (hl : left (litA p.1) = true) : ColA m (s ++ [p]) (fun x => left x && !x.sameKey (litA p.1)) := by
  have hns := (h.lf p.1).1 hl
  refine ⟨fun q hq => ?_, ?_, fun a => ?_⟩
  · rcases List.mem_append.1 hq with hq | hq
    · exact h.sub q hq
    · rw [List.mem_singleton.1 hq]; exact hpm
  · rw [List.map_append]
    refine List.nodup_append.2 ⟨h.nd, by simp, fun a ha b hb e => ?_⟩
    simp at hb
    exact hns.2 (by rw [← hb, ← e]; exact ha)
  · rw [Bool.and_eq_true, h.lf, List.map_append, List.mem_append]
    have : (!(litA a).sameKey (litA p.1)) = true ↔ a ≠ p.1 := by
      constructor
      · intro hs e
        rw [e, WideAt.sameKey_self (litA_key p.1)] at hs
        cases hs
      · intro hne
        cases hs : (litA a).sameKey (litA p.1) with
        | false => rfl
        | true => exact absurd (litA_inj (WideAt.sameKey_eq hs)) hne
    rw [this]
    simp only [List.map_cons, List.map_nil, List.mem_singleton, not_or]
    exact ⟨fun ⟨⟨a1, a2⟩, a3⟩ => ⟨a1, a2, a3⟩, fun ⟨a1, a2, a3⟩ => ⟨⟨a1, a2⟩, a3⟩⟩
theorem ColA.done {m s : List (Ad × Value)} {left : Lit → Bool} (h : ColA m s left) (hn : (m.map (·.1)).Nodup) (h0 : ∀ kl, left kl = false) : s.Perm m := by
  have nd1 : s.Nodup := (List.pairwise_map.1 h.nd).imp fun h e => h (by rw [e])
  have nd2 : m.Nodup := (List.pairwise_map.1 hn).imp fun h e => h (by rw [e])
  refine (List.perm_ext_iff_of_nodup nd1 nd2).2 fun p => ⟨h.sub p, fun hp => ?_⟩
  by_cases hs : p.1 ∈ s.map (·.1)
  · obtain ⟨q, hq, e⟩ := List.mem_map.1 hs
    have hqm := h.sub q hq
    have : q = p := by
      obtain ⟨i, h1⟩ := List.getElem?_of_mem hqm
      obtain ⟨j, h2⟩ := List.getElem?_of_mem hp
      have a1 := (mgetA_some (k := q.1) (v0 := q.2) hn h1).1
      have a2 := (mgetA_some (k := p.1) (v0 := p.2) hn h2).1
      rw [e, a2] at a1
      injection a1 with a1
      exact Prod.ext e a1.symm
    exact this ▸ hq
  · have := (h.lf p.1).2 ⟨List.mem_map_of_mem hp, hs⟩
    rw [h0] at this
    cases this
theorem ranges_mod {H : Type} {P : Program} {k : TypeId} {R : Value → Option (DataW H × List MemPlace)} {w w' : World} {b r n : Nat} {D : DataW H} {left : Lit → Bool} {cnt : Nat} (h : w.ranges P k R b r n D left cnt) {F : Nat → Prop} (hm : Mod F w w') (hb : ¬ F b) (hr : ¬ F r) : w'.ranges P k R b r n D left cnt := by
  have h1 := h.owns.lt
  have h2 := h.lt
  obtain ⟨es, clock, since, seen, c0, hb0, Ft, hs, hD, hr0, rest⟩ := h
  exact ⟨es, clock, since, seen, c0, (hm.block b h1 hb).trans hb0, Ft, hs, hD, (hm.block r h2 hr).trans hr0, rest⟩
end Go.Proofs.YtcccdlmngddalaaGreat
namespace Go.Proofs.YtcccdlmngddalaaGreat
open Go.RowKit Go.MapKept Go.Maps Go.WideShapes Go.Lib
theorem perm_back {α β : Type} (f : α → β) {l m : List β} (h : l.Perm m) : ∀ ks : List α, ks.map f = m → ∃ ks' : List α, ks'.Perm ks ∧ ks'.map f = l := by
  induction h with
  | nil => intro ks hk; exact ⟨ks, .refl _, hk⟩
  | @cons a l m _ ih =>
    intro ks hk
    cases ks with
    | nil => simp at hk
    | cons k ks =>
      simp only [List.map_cons, List.cons.injEq] at hk
      obtain ⟨ks', h1, h2⟩ := ih ks hk.2
      exact ⟨k :: ks', h1.cons k, by rw [List.map_cons, h2, hk.1]⟩
  | swap a a' l =>
    intro ks hk
    match ks, hk with
    | k :: k' :: ks, hk =>
      simp only [List.map_cons, List.cons.injEq] at hk
      exact ⟨k' :: k :: ks, .swap _ _ _, by simp [hk.1, hk.2.1, hk.2.2]⟩
    | [_], hk => simp at hk
    | [], hk => simp at hk
  | trans _ _ ih1 ih2 =>
    intro ks hk
    obtain ⟨k2, h1, h2⟩ := ih2 ks hk
    obtain ⟨k3, h3, h4⟩ := ih1 k2 h2
    exact ⟨k3, h3.trans h1, h4⟩
theorem Ma.of_owns {w : World} {b n : Nat} {ml : List (Lit × DataW Unit)} {m : List (Ad × Value)} (h : w.ownsMap Tryz.prog 36 Rp b n (.map ml)) (hp : ml.Perm (m.map enA)) (hv : ∀ p ∈ m, PtrV p.2) : ∃ m0, m0.Perm m ∧ Ma w b m0 := by
  obtain ⟨es, clock, hb, F, hs, hD⟩ := h
  injection hD with hD
  have h1 : (es.toList.map (WideElems.rg Tryz.prog 36 (Rp (H := Unit)))).Perm (m.map enA) := (sorted_perm _).symm.trans (hD ▸ hp)
  obtain ⟨m0, h2, h3⟩ := perm_back enA h1 m rfl
  refine ⟨m0, h2, es, clock, hb, ?_, F.stamped⟩
  have hl : es.toList.length = m0.length := by have := congrArg List.length h3; simpa using this.symm
  apply List.ext_getElem (by simpa using hl)
  intro i hi hi'
  have hie : i < es.toList.length := by simpa using hi
  have him : i < m0.length := by simpa using hi'
  simp only [List.getElem_map]
  have he := congrArg (fun l => l[i]?) h3
  simp only [List.getElem?_map, List.getElem?_eq_getElem hie, List.getElem?_eq_getElem him, Option.map_some, Option.some.injEq] at he
  obtain ⟨y, hy⟩ := F.reads _ (List.getElem_mem hie)
  rw [WideElems.rg_of hy] at he
  have hk := WideElems.rd_key hy
  rw [← he] at hk
  have hkey : es.toList[i].key = m0[i].1.kv := adrKeyed.inj hk (litA_eq m0[i].1)
  obtain ⟨g, hg⟩ := hv m0[i] (h2.mem_iff.1 (List.getElem_mem him))
  have hval : es.toList[i].val = m0[i].2 := by
    rw [hg]
    unfold WideElems.rd at hy
    rw [hkey, litA_eq] at hy
    cases hr : Rp (H := Unit) es.toList[i].val with
    | none => rw [hr] at hy; simp at hy
    | some z =>
      obtain ⟨g2, e1, rfl⟩ := Rp_ptr hr
      rw [hr, ← he] at hy
      simp only [enA, hg, Rp, Option.map_some, Option.getD_some] at hy
      simp at hy
      rw [e1, show g2 = g by omega]
  rw [hkey, hval]
theorem ranges_nc {H : Type} {P : Program} {k : TypeId} {R : Value → Option (DataW H × List MemPlace)} {w : World} {b r n : Nat} {D : DataW H} {left : Lit → Bool} {cnt : Nat} (h : w.ranges P k R b r n D left cnt) : ∀ k, k = b ∨ k = r → ∀ cs t z, w.heap[k]? ≠ some (.cells cs t z) := fun k hk cs t z e => by
  obtain ⟨es, clock, since, seen, c0, hb, _, _, _, hr, _⟩ := h
  rcases hk with rfl | rfl
  · rw [hb] at e; cases e
  · rw [hr] at e; cases e
set_option maxHeartbeats 4000000 in
set_option maxRecDepth 100000 in
theorem delfA (cb : Array Value) (b : Nat) (m : List (Ad × Value)) (hv : ∀ p ∈ m, PtrV p.2) (hl : m.length ≤ 100000) (w : World) (hown : Ma w b m) (pd : Ad → Bool) (F : Nat → Prop) (hFb : ¬ F b) (hFr : ∀ k, F k → k < w.heap.size) (I : List (Ad × Value) → World → Prop) (hI0 : I [] w)
    (hst : ∀ s W W', I s W → (∀ k, k = b ∨ k = w.heap.size → ∀ cs t z, W.heap[k]? ≠ some (.cells cs t z)) → Mod (fun k => k = b ∨ k = w.heap.size) W W' → I s W')
    (hcall : ∀ s W (p : Ad × Value), I s W → p ∈ m → p.1 ∉ s.map (·.1) → w.heap.size ≤ W.heap.size → Calls Tryz.prog 108 (#[p.1.kv, p.2] ++ cb) W fun e w' => e = .returned (.bool (pd p.1)) ∧ I (s ++ [p]) w' ∧ Mod F W w') :
    Calls Tryz.prog 107 #[.map (some b), .func (.func 108) #[] cb] w fun e w' => e = .returned (.tuple #[]) ∧ ∃ s m', s.Perm m ∧ I s w' ∧ m'.Perm (m.filter fun p => !pd p.1) ∧ Ma w' b m' ∧ Mod (fun k => k = b ∨ F k) w w' := by
  have K : Keyed Tryz.prog 36 := adrKeyed
  have hnd := hown.nd
  have hbl := hown.lt
  obtain ⟨ml, how, hperm⟩ := hown.owns (H := Unit) hv (by unfold maxLen; omega)
  have HV := Lib.hid hv
  have HND := Lib.hid hnd
  have HST := Lib.hid hst
  have HC : Hid _ := Lib.hid hcall
  have HF := Lib.hid (And.intro hFb hFr)
  have HI : Hid (I [] w) := Lib.hid hI0
  have HP := Lib.hid hperm
  have HCOL := Lib.hid (ColA.start hperm)
  have HNC : Hid (∀ k, k = b ∨ k = w.heap.size → ∀ cs t z, w.heap[k]? ≠ some (.cells cs t z)) := Lib.hid fun k hk cs t z e => by
    rcases hk with rfl | rfl
    · obtain ⟨es, c, hb, _⟩ := hown
      rw [hb] at e; cases e
    · exact absurd (lt_of_block e) (Nat.lt_irrefl _)
  clear hv hnd hst hcall hFb hFr hI0 hperm hown
  go_enter Tryz.func107, Tryz.ntmps107
  go_wp2_with (first
    | (at_range; refine wpList_range_own _ rfl _ 108 rfl 36 22 K Tryz.underlying108 Rp b _ _ rfl how ?_; intro w0 hrg0 hg0 hs0)
    | go_in)
  go_frame
  have hmod0 : Mod (fun k => k = b ∨ k = w.heap.size) w w0 := (Mod.ofGrown hg0).mono fun k hk => by cases hk
  have HI0 : Hid (I [] w0) := Lib.hid (HST.out _ _ _ HI.out HNC.out hmod0)
  have HM0 : Hid (Mod (fun k => k = b ∨ F k) w w0) := Lib.hid ((Mod.ofGrown hg0).mono fun k hk => by cases hk)
  clear hmod0
  go_loopw [4, 5] (fun _ _ wr => ∃ (left : Lit → Bool) (cnt : Nat) (s : List (Ad × Value)) (ml : List (Lit × DataW Unit)), wr.ranges Tryz.prog 36 Rp b w.heap.size m.length (.map ml) left cnt ∧ ml.Perm ((m.filter fun p => !(pd p.1 && decide (p.1 ∈ s.map (·.1)))).map enA) ∧ ml.Pairwise (fun p q => p.1 ≠ q.1) ∧ ColA m s left ∧ I s wr ∧ Mod (fun k => k = b ∨ F k) w wr)
    (fun _ _ wr => wr.rangeLeft b w.heap.size)
  case atStart =>
    obtain ⟨ml', hml, hap, _⟩ := hrg0.owns.entries K
    obtain rfl : ml = ml' := by injection hml
    exact ⟨_, _, [], ml, hrg0, by rw [List.filter_eq_self.2 (by simp)]; exact HP.out, hap, HCOL.out, HI0.out, HM0.out⟩
  case round =>
    obtain ⟨left, cnt, s, mc, hrg, hpm, hap, hcol, hI, hm⟩ := hrel
    have HRG := Lib.hid hrg
    have HPM := Lib.hid hpm
    have HAP := Lib.hid hap
    have HCL := Lib.hid hcol
    have HIS := Lib.hid hI
    have HMW := Lib.hid hm
    clear hrg hpm hap hcol hI hm HI0 HM0 HI HCOL HP
    go_wp2_with (first
      | (at_next; refine wpList_next_ranges _ rfl _ rfl 36 K Rp id id (fun key _ _ => ⟨key, rfl⟩) (fun v _ _ => ⟨v, rfl⟩) b w.heap.size m.length _ _ _ rfl HRG.out ?_ ?_)
      | go_in)
    · -- nothing is left
      intro _ hl0
      have HDN : Hid (s.Perm m) := Lib.hid (HCL.out.done HND.out hl0)
      clear hl0
      go_wp2
      go_end0
      have hfl : (m.filter fun p => !(pd p.1 && decide (p.1 ∈ s.map (·.1)))) = m.filter fun p => !pd p.1 := List.filter_congr fun p hp => by
        have : p.1 ∈ s.map (·.1) := List.mem_map_of_mem (HDN.out.mem_iff.2 hp)
        simp [this]
      obtain ⟨m0, h1, h2⟩ := Ma.of_owns HRG.out.owns HPM.out fun p hp => HV.out p (List.mem_filter.1 hp).1
      exact ⟨rfl, s, m0, HDN.out, HIS.out, hfl ▸ h1, h2, HMW.out⟩
    · -- an entry has come
      intro x c kl yd yp w1 cnt1 hkey hlx hvv hat hrg1 hlt hg1 hs1 hen
      try simp only [id] at hkey hvv hen
      obtain ⟨g, rfl, hyy⟩ := Rp_ptr hvv
      obtain ⟨rfl, -⟩ : yd = .lit (.int .u64 (g : Int)) ∧ yp = [] := by injection hyy with e1 e2; exact ⟨e1, e2⟩
      obtain ⟨p, hpm', hkl, hp2⟩ := enA_mem (fun q hq => HV.out q (List.mem_filter.1 hq).1) HPM.out HAP.out (has_true_of_atKey hat) hat
      have hpm := (List.mem_filter.1 hpm').1
      subst hkl
      obtain rfl : x = p.1.kv := K.inj hkey (litA_eq p.1)
      have hns := ((HCL.out.lf p.1).1 hlx).2
      have HCL1 := Lib.hid (HCL.out.step hpm hlx)
      have HLT : Hid (cnt1 < wr.rangeLeft b w.heap.size) := Lib.hid (by rw [HRG.out.left_eq]; exact hlt)
      have HRG1 := Lib.hid hrg1
      have hr1 := HRG.out.lt
      have hmw1 : Mod (fun k => k = b ∨ k = w.heap.size) wr w1 := (Mod.ofGrown hg1).mono fun k hk => .inl (.inr (by injection hk with hk; exact hk.symm))
      have HI1 := Lib.hid (HST.out _ _ _ HIS.out (ranges_nc HRG.out) hmw1)
      have HM1 : Hid (Mod (fun k => k = b ∨ F k) w w1) := Lib.hid (HMW.out.trans (Mod.ofGrown hg1) fun k hk => .inr (by injection hk with hk; omega))
      have HPP := Lib.hid hpm
      have HNS := Lib.hid hns
      have HKEY := Lib.hid hkey
      obtain ⟨q, hq⟩ : ∃ q, q = p.1 := ⟨_, rfl⟩
      have HQ := Lib.hid hq
      rw [← hq] at hen HKEY
      have HB0 := Lib.hid (Blk.new w1 36 (adrC false z16))
      have HFIT : Hid (0 + q.c.length ≤ (adrC false z16).length) := Lib.hid (by rw [q.c_len]; decide)
      have HXS := Lib.hid q.c_sz
      have HX1 := Lib.hid q.c_one
      have hrl1 := HRG1.out.lt
      have hbl1 := HRG1.out.owns.lt
      have hsz1 := HM1.out.size
      clear hkey hlx hvv hat hrg1 hlt hg1 hs1 hyy hpm' hpm hns hmw1 hq
      have hen' : (Instr.entry (.pointer (some ⟨w.heap.size, 0, none⟩))).run Tryz.prog w1 = .ok (.tuple #[.agg q.c.toArray, .pointer (some ⟨g, 0, none⟩)]) w1 := hen
      clear hen
      go_wp2_with (first
        | (refine wpList_store_blk rfl _ _ _ rfl w1.heap.size 0 36 (adrC false z16) q.c rfl rfl HB0.out HFIT.out HXS.out HX1.out ?_; intro w3 HB3 HM3; have HB := Lib.hid (splice_all HB3.out (by rw [q.c_len]; rfl)); have HM4 : Hid (Mod (fun _ => False) w1 w3) := Lib.hid (((Mod.refl _ _).alloc _).trans HM3.out fun x hx => .inr (by omega)))
        | (refine wpList_load_blk rfl _ _ rfl w1.heap.size 0 rfl 36 q.c q.c _ HB.out (List.take_of_length_le (Nat.le_refl _)) Tryz.underlying36 rfl HXS.out ?_))
      have HI3 := Lib.hid (HST.out _ _ _ HI1.out (ranges_nc HRG1.out) (HM4.out.mono (G := fun k => k = b ∨ k = w.heap.size) fun k f => f.elim))
      have hcl := HC.out s w3 p HI3.out HPP.out HNS.out (by have := HM4.out.size; omega)
      rw [hp2, ← HQ.out] at hcl
      refine hcl.mono ?_
      rintro e w4 ⟨rfl, hI4, hm4⟩
      have HI4 := Lib.hid hI4
      have HM5 : Hid (Mod (fun k => k = b ∨ F k) w w4) := Lib.hid ((HM1.out.trans HM4.out fun _ f => f.elim).trans hm4 fun k hk => .inl (.inr hk))
      have HRG4 := Lib.hid (ranges_mod (ranges_mod HRG1.out HM4.out (fun f => f) fun f => f) hm4 HF.out.1 fun f => by have := HF.out.2 _ f; omega)
      have HB4 := Lib.hid (HB.out.keep hm4 fun f => by have := HF.out.2 _ f; omega)
      clear hcl hI4 hm4 HI3 HI1 HRG HRG1 HB HB3 HM3
      cases hpd : pd q with
      | false =>
        have HPD := Lib.hid hpd
        clear hpd
        go_wp2
        go_roundw
        case rel =>
          refine ⟨_, cnt1, s ++ [p], mc, HRG4.out, ?_, HAP.out, HCL1.out, HI4.out, HM5.out⟩
          have hfl : (m.filter fun x => !(pd x.1 && decide (x.1 ∈ (s ++ [p]).map (·.1)))) = m.filter fun x => !(pd x.1 && decide (x.1 ∈ s.map (·.1))) := List.filter_congr fun x _ => by
            by_cases hx : x.1 = p.1
            · have : pd x.1 = false := by rw [hx, ← HQ.out]; exact HPD.out
              simp [this]
            · have hiff : x.1 ∈ (s ++ [p]).map (·.1) ↔ x.1 ∈ s.map (·.1) := by rw [List.map_append, List.mem_append]; simp [hx]
              simp only [hiff]
          rw [hfl]
          exact HPM.out
        case measure => rw [HRG4.out.left_eq]; exact HLT.out
      | true =>
        have HPD := Lib.hid hpd
        clear hpd
        go_wp2_with (first
          | (refine wpList_load_blk rfl _ _ rfl w1.heap.size 0 rfl 36 q.c q.c _ HB4.out (List.take_of_length_le (Nat.le_refl _)) Tryz.underlying36 rfl HXS.out ?_)
          | (at_delete; refine wpList_delete_ranges _ rfl _ _ 108 36 rfl 22 K Tryz.underlying108 Rp b w.heap.size m.length _ _ _ rfl HRG4.out q.kv (litA q) rfl HKEY.out ?_; intro w5 cnt3 hrg3 hle hturn; have HRG5 := Lib.hid hrg3; have HLE := Lib.hid hle; have HTU := Lib.hid hturn; clear hrg3 hle hturn; go_frame)
          | go_in)
        go_roundw
        case rel =>
          have hg5 : Mod (fun k => k = b) w4 w5 := (Mod.ofGrown HTU.out.grown).mono fun k hk => .inl (by injection hk with hk; exact hk.symm)
          have hr5 := HRG5.out
          rw [HQ.out] at hr5
          rw [strike_twice] at hr5
          refine ⟨_, cnt3, s ++ [p], mc.filter fun x => !x.1.sameKey (litA p.1), hr5, ?_, HAP.out.filter _, HCL1.out, HST.out _ _ _ HI4.out (ranges_nc HRG4.out) (hg5.mono fun k hk => .inl (.inl hk)), HM5.out.trans hg5 fun k hk => .inl (.inl hk)⟩
          have hsk : ∀ x : Ad × Value, (!(enA (H := Unit) x).1.sameKey (litA p.1)) = decide (x.1 ≠ p.1) := fun x => by
            by_cases hx : x.1 = p.1
            · have e1 : (enA (H := Unit) x).1 = litA p.1 := by show litA x.1 = _; rw [hx]
              rw [e1, WideAt.sameKey_self (litA_key p.1)]
              simp [hx]
            · have : (litA x.1).sameKey (litA p.1) = false := by
                cases hs : (litA x.1).sameKey (litA p.1) with
                | false => rfl
                | true => exact absurd (litA_inj (WideAt.sameKey_eq hs)) hx
              show (!(litA x.1).sameKey (litA p.1)) = _
              rw [this]
              simp [hx]
          have h1 := HPM.out.filter fun x : Lit × DataW Unit => !x.1.sameKey (litA p.1)
          rw [List.filter_map] at h1
          refine h1.trans (List.Perm.of_eq ?_)
          congr 1
          rw [List.filter_filter]
          refine List.filter_congr fun x _ => ?_
          show (!(enA (H := Unit) x).1.sameKey (litA p.1) && _) = _
          rw [hsk]
          by_cases hx : x.1 = p.1
          · have : pd x.1 = true := by rw [hx, ← HQ.out]; exact HPD.out
            have hin : x.1 ∈ (s ++ [p]).map (·.1) := by rw [List.map_append, List.mem_append]; exact .inr (by simp [hx])
            simp only [hx, this, ne_eq, not_true_eq_false, decide_false, Bool.false_and]
            simp only [hx] at hin this
            simp [hin, this]
          · have hiff : x.1 ∈ (s ++ [p]).map (·.1) ↔ x.1 ∈ s.map (·.1) := by rw [List.map_append, List.mem_append]; simp [hx]
            simp only [hiff]
            simp [hx]
        case measure => rw [HRG5.out.left_eq]; have := HLT.out; have := HLE.out; omega
end Go.Proofs.YtcccdlmngddalaaGreat
