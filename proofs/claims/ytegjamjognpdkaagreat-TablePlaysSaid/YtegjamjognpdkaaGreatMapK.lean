/- Maps of uint32 keys and pointers: a map of our own as the kit's laws on ranges ask for it, and back. -/
import Derived.Test.YtegjamjognpdkaaGreatMap
import Derived.Maps.RangeWalk
import Derived.Lib.SlMapFilter
namespace Go.Proofs.YtegjamjognpdkaaGreat
open Go.RowKit Go.Maps Go.WideShapes
set_option linter.unusedVariables false
set_option linter.unusedSimpArgs false
section
variable {H : Type}
/-- how a pointer to a block reads -/
def Rp (v : Value) : Option (DataW H × List MemPlace) :=
  match v with
  | .pointer (some ⟨g, 0, none⟩) => some (.lit (.int .u64 g), [])
  | _ => none
def enK (p : Int × Value) : Lit × DataW H := (.int .u32 p.1, ((Rp p.2).map (·.1)).getD .nil)
def deK (p : Lit × DataW H) : Int × Value :=
  match p with
  | (.int _ k, .lit (.int _ g)) => (k, .pointer (some ⟨g.toNat, 0, none⟩))
  | _ => (0, undef)
def PtrV (v : Value) : Prop := ∃ g : Nat, v = .pointer (some ⟨g, 0, none⟩)
theorem Rp_ptr {v : Value} {y : DataW H × List MemPlace} (h : Rp v = some y) : ∃ g : Nat, v = .pointer (some ⟨g, 0, none⟩) ∧ y = (.lit (.int .u64 g), []) := by
  unfold Rp at h
  split at h
  · cases h; exact ⟨_, rfl, rfl⟩
  · cases h
theorem Rp_mk (g : Nat) : Rp (H := H) (.pointer (some ⟨g, 0, none⟩)) = some (.lit (.int .u64 g), []) := rfl
theorem deK_enK {p : Int × Value} (h : PtrV p.2) : deK (enK (H := H) p) = p := by
  obtain ⟨k, v⟩ := p
  obtain ⟨g, rfl⟩ := h
  simp [enK, deK, Rp]
theorem decoded {m : List (Int × Value)} (h : ∀ p ∈ m, PtrV p.2) : (m.map (enK (H := H))).map deK = m := by
  rw [List.map_map]
  refine (List.map_congr_left fun p hp => ?_).trans (List.map_id _)
  exact deK_enK (h p hp)
theorem keyOf_u32 {P : Program} {kt : TypeId} (hk : P.underlying kt = some (.int .u32)) {x : Int} (hw : (Lit.int .u32 x).wf = true) : keyOf P kt (.int .u32 x) = some (.int .u32 x) := by
  simp [keyOf, hk, mapKey, hw]
theorem Mp.owns {P : Program} {kt : TypeId} (hk : P.underlying kt = some (.int .u32)) {w : World} {b : Nat} {m : List (Int × Value)} (h : Mp w b .u32 m) (hw : ∀ p ∈ m, (Lit.int .u32 p.1).wf = true) (hv : ∀ p ∈ m, PtrV p.2) (hl : m.length ≤ maxLen) :
    ∃ l : List (Lit × DataW H), w.ownsMap P kt Rp b m.length (.map l) ∧ l.Perm (m.map enK) := by
  obtain ⟨es, c, hb, hx, hst⟩ := h
  have hsz : es.size = m.length := by have := congrArg List.length hx; simpa using this
  have rdx : ∀ x ∈ es.toList, ∃ p ∈ m, x.key = .int .u32 p.1 ∧ x.val = p.2 := fun x hx' => by
    have hm : (x.key, x.val) ∈ m.map fun p => (Value.int .u32 p.1, p.2) := by rw [← hx]; exact List.mem_map_of_mem hx'
    obtain ⟨p, hp, hpe⟩ := List.mem_map.1 hm
    injection hpe with e1 e2
    exact ⟨p, hp, e1.symm, e2.symm⟩
  have rd : ∀ x ∈ es.toList, ∃ p ∈ m, x.key = .int .u32 p.1 ∧ x.val = p.2 ∧ WideElems.rd P kt (Rp (H := H)) x = some (enK p) := fun x hx' => by
    obtain ⟨p, hp, e1, e2⟩ := rdx x hx'
    obtain ⟨g, eg⟩ := hv p hp
    refine ⟨p, hp, e1, e2, ?_⟩
    unfold WideElems.rd
    rw [e1, keyOf_u32 hk (hw p hp), e2, eg]
    simp [enK, eg, Rp]
  refine ⟨_, ⟨es, c, hb, ⟨by omega, hst, fun x hx' => ?_⟩, by omega, rfl⟩, ?_⟩
  · obtain ⟨p, _, _, _, h⟩ := rd x hx'
    exact ⟨_, h⟩
  · refine (sorted_perm _).trans ?_
    have : es.toList.map (WideElems.rg P kt (Rp (H := H))) = m.map enK := by
      apply List.ext_getElem
      · simp; exact hsz
      · intro i h1 h2
        simp only [List.getElem_map]
        have hi : i < es.toList.length := by simpa using h1
        have hi2 : i < m.length := by simpa using h2
        have he := congrArg (fun l => l[i]?) hx
        simp only [List.getElem?_map, List.getElem?_eq_getElem hi, List.getElem?_eq_getElem hi2, Option.map_some, Option.some.injEq, Prod.mk.injEq] at he
        obtain ⟨g, eg⟩ := hv m[i] (List.getElem_mem _)
        unfold WideElems.rg WideElems.rd
        rw [he.1, keyOf_u32 hk (hw _ (List.getElem_mem _)), he.2, eg]
        simp [enK, eg, Rp]
    rw [this]
theorem Mp.ofOwns {P : Program} {kt : TypeId} (hk : P.underlying kt = some (.int .u32)) {w : World} {b n : Nat} {l : List (Lit × DataW H)} (h : w.ownsMap P kt Rp b n (.map l)) :
    ∃ m, Mp w b .u32 m ∧ (m.map enK).Perm l ∧ (∀ p ∈ m, (Lit.int .u32 p.1).wf = true ∧ PtrV p.2) := by
  obtain ⟨es, c, hb, F, hs, hD⟩ := h
  have rd : ∀ x ∈ es.toList, ∃ p : Int × Value, x.key = .int .u32 p.1 ∧ x.val = p.2 ∧ (Lit.int .u32 p.1).wf = true ∧ PtrV p.2 ∧ WideElems.rg P kt (Rp (H := H)) x = enK p := fun x hx => by
    obtain ⟨y, hy⟩ := F.reads x hx
    obtain ⟨z, e1, e2, hwf⟩ := keyOf_int_inv hk (WideElems.rd_key hy)
    obtain ⟨u, hu, e3⟩ := WideElems.rd_val hy
    obtain ⟨g, e4, e5⟩ := Rp_ptr hu
    refine ⟨(z, x.val), e1, rfl, hwf, ⟨g, e4⟩, ?_⟩
    unfold WideElems.rg
    rw [hy]
    obtain ⟨y1, y2⟩ := y
    simp only at e2 e3
    rw [e2, e3, e5]
    simp [enK, e4, Rp]
  have hf : ∃ f : MapEntry → Int × Value, ∀ x ∈ es.toList, x.key = .int .u32 (f x).1 ∧ x.val = (f x).2 ∧ (Lit.int .u32 (f x).1).wf = true ∧ PtrV (f x).2 ∧ WideElems.rg P kt (Rp (H := H)) x = enK (f x) := by
    classical
    exact ⟨fun x => if hx : x ∈ es.toList then Classical.choose (rd x hx) else (0, undef), fun x hx => by
      simp only [dif_pos hx]
      exact Classical.choose_spec (rd x hx)⟩
  obtain ⟨f, hf⟩ := hf
  refine ⟨es.toList.map f, ⟨es, c, hb, ?_, F.stamped⟩, ?_, fun p hp => ?_⟩
  · rw [List.map_map]
    refine List.map_congr_left fun x hx => ?_
    obtain ⟨h1, h2, _⟩ := hf x hx
    simp [h1, h2]
  · cases hD
    refine List.Perm.trans ?_ (sorted_perm _).symm
    rw [List.map_map]
    refine List.Perm.of_eq (List.map_congr_left fun x hx => ?_)
    exact (hf x hx).2.2.2.2.symm
  · obtain ⟨x, hx, rfl⟩ := List.mem_map.1 hp
    exact ⟨(hf x hx).2.2.1, (hf x hx).2.2.2.1⟩
end
theorem perm_unmap {α β : Type} {f : α → β} : ∀ (m : List β) (l : List α), (l.map f).Perm m → ∃ l', l.Perm l' ∧ l'.map f = m
  | [], l, h => by
    have := h.length_eq
    cases l with
    | nil => exact ⟨[], .nil, rfl⟩
    | cons a l => simp at this
  | b :: m, l, h => by
    have hb : b ∈ l.map f := h.mem_iff.2 List.mem_cons_self
    obtain ⟨a, ha, rfl⟩ := List.mem_map.1 hb
    obtain ⟨s, t, rfl⟩ := List.append_of_mem ha
    have h1 : ((s ++ a :: t).map f).Perm (f a :: (s ++ t).map f) := by
      simp only [List.map_append, List.map_cons]
      exact List.perm_middle
    obtain ⟨l', h2, h3⟩ := perm_unmap m (s ++ t) ((h1.symm.trans h).cons_inv)
    exact ⟨a :: l', List.perm_middle.trans (h2.cons a), by simp [h3]⟩
end Go.Proofs.YtegjamjognpdkaaGreat
