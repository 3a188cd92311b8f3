/- Maps of int keys and pointers: a map of our own as the kit's laws on ranges ask for it. -/
import Derived.Test.YtidkapanpieflaaMap
import Derived.Maps.RangeWalk
namespace Go.Proofs.Ytidkapanpieflaa
open Go.RowKit Go.Maps Go.WideShapes
set_option linter.unusedVariables false
set_option linter.unusedSimpArgs false
section
variable {H : Type}
/-- how a pointer to a block reads -/
def Rp (v : Value) : Option (DataW H × List MemPlace) :=
  match v with
  | .pointer (some ⟨g, 0, none⟩) => some (.lit (.int .u64 g), [])
  | _ => none
def enK (p : Int × Value) : Lit × DataW H := (.int .i64 p.1, ((Rp p.2).map (·.1)).getD .nil)
def deK (p : Lit × DataW H) : Int × Value :=
  match p with
  | (.int _ k, .lit (.int _ g)) => (k, .pointer (some ⟨g.toNat, 0, none⟩))
  | _ => (0, undef)
def PtrV (v : Value) : Prop := ∃ g : Nat, v = .pointer (some ⟨g, 0, none⟩)
theorem Rp_ptr {v : Value} {y : DataW H × List MemPlace} (h : Rp v = some y) : ∃ g : Nat, v = .pointer (some ⟨g, 0, none⟩) ∧ y = (.lit (.int .u64 g), []) := by
  unfold Rp at h
  split at h
  · cases h; exact ⟨_, rfl, rfl⟩
  · cases h
theorem Rp_mk (g : Nat) : Rp (H := H) (.pointer (some ⟨g, 0, none⟩)) = some (.lit (.int .u64 g), []) := rfl
theorem deK_enK {p : Int × Value} (h : PtrV p.2) : deK (enK (H := H) p) = p := by
  obtain ⟨k, v⟩ := p
  obtain ⟨g, rfl⟩ := h
  simp [enK, deK, Rp]
theorem decoded {m : List (Int × Value)} (h : ∀ p ∈ m, PtrV p.2) : (m.map (enK (H := H))).map deK = m := by
  rw [List.map_map]
  refine (List.map_congr_left fun p hp => ?_).trans (List.map_id _)
  exact deK_enK (h p hp)
theorem keyOf_wf {P : Program} {kt : TypeId} (hk : P.underlying kt = some (.int .i64)) {x : Int} (hw : (Lit.int .i64 x).wf = true) : keyOf P kt (.int .i64 x) = some (.int .i64 x) := by
  simp [keyOf, hk, mapKey, hw]
theorem Mp.owns {P : Program} {kt : TypeId} (hk : P.underlying kt = some (.int .i64)) {w : World} {b : Nat} {m : List (Int × Value)} (h : Mp w b .i64 m) (hw : ∀ p ∈ m, (Lit.int .i64 p.1).wf = true) (hv : ∀ p ∈ m, PtrV p.2) (hl : m.length ≤ maxLen) :
    ∃ l : List (Lit × DataW H), w.ownsMap P kt Rp b m.length (.map l) ∧ l.Perm (m.map enK) := by
  obtain ⟨es, c, hb, hx, hst⟩ := h
  have hsz : es.size = m.length := by have := congrArg List.length hx; simpa using this
  have rdx : ∀ x ∈ es.toList, ∃ p ∈ m, x.key = .int .i64 p.1 ∧ x.val = p.2 := fun x hx' => by
    have hm : (x.key, x.val) ∈ m.map fun p => (Value.int .i64 p.1, p.2) := by rw [← hx]; exact List.mem_map_of_mem hx'
    obtain ⟨p, hp, hpe⟩ := List.mem_map.1 hm
    injection hpe with e1 e2
    exact ⟨p, hp, e1.symm, e2.symm⟩
  have rd : ∀ x ∈ es.toList, ∃ p ∈ m, x.key = .int .i64 p.1 ∧ x.val = p.2 ∧ WideElems.rd P kt (Rp (H := H)) x = some (enK p) := fun x hx' => by
    obtain ⟨p, hp, e1, e2⟩ := rdx x hx'
    obtain ⟨g, eg⟩ := hv p hp
    refine ⟨p, hp, e1, e2, ?_⟩
    unfold WideElems.rd
    rw [e1, keyOf_wf hk (hw p hp), e2, eg]
    simp [enK, eg, Rp]
  refine ⟨_, ⟨es, c, hb, ⟨by omega, hst, fun x hx' => ?_⟩, by omega, rfl⟩, ?_⟩
  · obtain ⟨p, _, _, _, h⟩ := rd x hx'
    exact ⟨_, h⟩
  · refine (sorted_perm _).trans ?_
    have : es.toList.map (WideElems.rg P kt (Rp (H := H))) = m.map enK := by
      apply List.ext_getElem
      · simp; exact hsz
      · intro i h1 h2
        simp only [List.getElem_map]
        have hi : i < es.toList.length := by simpa using h1
        have hi2 : i < m.length := by simpa using h2
        have he := congrArg (fun l => l[i]?) hx
        simp only [List.getElem?_map, List.getElem?_eq_getElem hi, List.getElem?_eq_getElem hi2, Option.map_some, Option.some.injEq, Prod.mk.injEq] at he
        obtain ⟨g, eg⟩ := hv m[i] (List.getElem_mem _)
        unfold WideElems.rg WideElems.rd
        rw [he.1, keyOf_wf hk (hw _ (List.getElem_mem _)), he.2, eg]
        simp [enK, eg, Rp]
    rw [this]
end
end Go.Proofs.Ytidkapanpieflaa
