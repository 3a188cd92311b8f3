/- (*link.Hub).nodes, Nodes: all that it knows, rising. -/
import Derived.Test.YtidkapanpieflaaHubB
import Derived.Test.YtidkapanpieflaaLay
import Derived.Test.YtidkapanpieflaaMapI
import Derived.Handy
namespace Go.Proofs.Ytidkapanpieflaa
open Go.RowKit Go.Maps Go.Sort Go.Shelf
set_option linter.unusedVariables false
set_option linter.unusedSimpArgs false
theorem Mod.ofBelow {w w' : World} (h : Below w.heap.size w w') : Mod (fun _ => False) w w' := ⟨h.os, h.tape, h.output, h.size, fun k hk _ => h.block k hk⟩
theorem Row.ofOwns {w : World} {base : Nat} {e : TypeId} {v : Value} {n : Nat} {xs : List Value} (h : w.ownsRow base e 1 v n xs) : Row w (fun k => base ≤ k) e 1 v n xs := by
  obtain ⟨hl, h⟩ := h
  rcases h with ⟨rfl, rfl⟩ | ⟨g, cap, cur, rfl, hb, hg, r⟩
  · exact ⟨⟨hl, .inl ⟨rfl, rfl⟩⟩, fun g hg => by simp [Value.ownBlock] at hg⟩
  · exact ⟨⟨hl, .inr ⟨g, cap, cur, rfl, Nat.zero_le _, hg, r⟩⟩, fun g' hg' => by simp [Value.ownBlock] at hg'; exact hg' ▸ hb⟩
theorem Try.sortsA (m : Nat) : AnyZI.SortsIn Try.prog Try.sortedA_ren Fence.wide m :=
  ⟨fun blk off cap ss W hH hblk hsz => callsIn_wide.2 (AnyM.slices_Sort_int Try.sortA blk off cap ss W hH hblk hsz),
   fun p cap W => callsIn_wide.2 (AnyM.slices_Sort_int_none Try.sortA p cap W)⟩
theorem i64_wf {x : Int} (h : -9223372036854775808 ≤ x ∧ x < 9223372036854775808) : (Lit.int .i64 x).wf = true := by
  simp [Lit.wf, IntKind.min, IntKind.max, IntKind.signed, IntKind.bits]
  omega
theorem nodup_of_asc {l : List Int} (h : l.Pairwise (· < ·)) : l.Nodup := h.imp fun {a b} hab => by omega
/-- the keys of the map of what is known, sorted -/
theorem keys_sorted {m : List (Int × Value)} {l : List Life} (hnd : (m.map (·.1)).Nodup) (ha : Asc Life.node l) (hm : ∀ k, (mget m k).isSome = (hfind Life.node l k).isSome) {ss : List Int} (hp : ss.Perm (m.map (·.1))) : (ss.mergeSort fun x y => decide (x ≤ y)) = l.map Life.node ∧ ss.length = l.length := by
  have h1 : ((ss.mergeSort fun x y => decide (x ≤ y))).Pairwise (fun x y => decide (x ≤ y) = true) := List.pairwise_mergeSort (le := fun x y : Int => decide (x ≤ y)) (fun a b c h1 h2 => by simp at *; omega) (fun a b => by simp; omega) ss
  have h2 : (ss.mergeSort fun x y => decide (x ≤ y)).Perm ss := List.mergeSort_perm ss _
  have h3 : (ss.mergeSort fun x y => decide (x ≤ y)).Nodup := (h2.trans hp).nodup_iff.2 hnd
  have h4 : (ss.mergeSort fun x y => decide (x ≤ y)).Pairwise (· < ·) := by
    have := List.Pairwise.and h1 h3
    exact this.imp fun {a b} hab => by have h5 := hab.1; have h6 := hab.2; simp at h5; omega
  have h5 : (l.map Life.node).Pairwise (· < ·) := List.pairwise_map.2 ha
  have e : (ss.mergeSort fun x y => decide (x ≤ y)) = l.map Life.node := asc_ext h4 h5 fun n => by
    rw [(h2.trans hp).mem_iff, ← mget_isSome, hm n, Option.isSome_iff_exists]
    constructor
    · rintro ⟨x, hx⟩
      exact List.mem_map.2 ⟨x, (hfind_mem hx).1, (hfind_mem hx).2⟩
    · intro hx
      obtain ⟨x, hx2, rfl⟩ := List.mem_map.1 hx
      exact ⟨x, hfind_of ha hx2⟩
  refine ⟨e, ?_⟩
  have := h2.length_eq
  rw [e, List.length_map] at this
  omega
set_option maxRecDepth 100000 in
set_option maxHeartbeats 4000000 in
theorem hnodes_any {w : World} {hb km gm : Nat} {l : List Life} {G : Int → Option Int} {vbo : Int → Nat} {c : Clr} (h : HubIn w hb l G km gm vbo c) (hl : l.length ≤ 1000) :
    Calls Try.prog 79 #[.pointer (some ⟨hb, 0, none⟩)] w fun e w' => ∃ v, e = .returned v ∧ Row w' (fun k => w.heap.size ≤ k) 3 1 v l.length ((l.map Life.node).map (Value.int .i64)) ∧ Mod (fun _ => False) w w' := by
  have c0 := h.top.cell (j := 0) rfl
  obtain ⟨m, hmp, hnd, hV⟩ := h.kn
  have hVs : ∀ k, (mget m k).isSome = (hfind Life.node l k).isSome := fun k => by rw [hV k]; unfold KV; rw [Option.isSome_map]
  have hmem : ∀ p ∈ m, ∃ L ∈ l, L.node = p.1 ∧ p.2 = ptrV vbo p.1 := fun p hp => by
    have h1 : (mget m p.1).isSome := mget_isSome.2 (List.mem_map_of_mem hp)
    rw [hVs, Option.isSome_iff_exists] at h1
    obtain ⟨L, hL⟩ := h1
    obtain ⟨h2, h3⟩ := hfind_mem hL
    have h4 := hV p.1
    have h5 : mget m p.1 = some p.2 := by
      unfold mget
      have : m.find? (fun q => q.1 == p.1) = some p := by
        cases hf : m.find? (fun q => q.1 == p.1) with
        | none => rw [List.find?_eq_none] at hf; exact absurd (hf p hp) (by simp)
        | some q =>
          have h6 := List.find?_some hf
          simp only [beq_iff_eq] at h6
          have h7 := List.mem_of_find?_eq_some hf
          obtain ⟨i, hi, e1⟩ := List.getElem_of_mem h7
          obtain ⟨j, hj, e2⟩ := List.getElem_of_mem hp
          have hij : i = j := (List.getElem_inj (xs := m.map fun p => p.1) (i := i) (j := j) (h₀ := by simpa using hi) (h₁ := by simpa using hj) hnd).1 (by simp [e1, e2, h6])
          subst hij
          rw [← e1, ← e2]
      rw [this]; rfl
    rw [h5] at h4
    unfold KV at h4
    rw [hL] at h4
    exact ⟨L, h2, h3, by simpa using h4⟩
  obtain ⟨ml, hown, hperm⟩ := hmp.owns (H := Unit) (P := Try.prog) (kt := 3) Try.underlying3 (fun p hp => by
    obtain ⟨L, hL, e, _⟩ := hmem p hp
    rw [← e]; exact i64_wf (h.rg L hL)) (fun p hp => by
    obtain ⟨L, hL, e, e2⟩ := hmem p hp
    exact ⟨_, e2⟩) (by
    have e := keys_sorted hnd h.asc hVs (List.Perm.refl _)
    have := e.2
    simp at this
    unfold maxLen; omega)
  have hlen : m.length = l.length := by have := (keys_sorted hnd h.asc hVs (List.Perm.refl _)).2; simpa using this
  have hkp : (intKeys (DataW.map ml)).Perm (m.map (·.1)) := by
    have := hperm.map (fun p : Lit × DataW Unit => Go.intOf p.1)
    refine List.Perm.trans (List.Perm.of_eq ?_) (this.trans (List.Perm.of_eq ?_))
    · rfl
    · rw [List.map_map]; exact List.map_congr_left fun p _ => rfl
  have hsz : Maps.size (DataW.map ml) = l.length := by have := hperm.length_eq; simp [Maps.size] at this ⊢; omega
  have hbl := hown.lt
  have hF : ∀ ss : List Int, ss.Perm (intKeys (DataW.map ml)) → (ss.mergeSort fun x y => decide (x ≤ y)) = l.map Life.node ∧ ss.length = l.length := fun ss hs => keys_sorted hnd h.asc hVs (hs.trans hkp)
  have HFF := Lib.hid hF
  clear hF hkp hperm hlen hmem hVs hV hnd hmp h
  refine (callsIn_wide (n := 6)).1 ?_
  have hseq : SeqGives Fence.wide 2 Try.prog 86 #[.pointer (some ⟨w.heap.size, 0, none⟩)] encZ (fun ss => ss.Perm (intKeys (DataW.map ml))) (Maps.size (DataW.map ml)) (w.alloc (.cells #[.map (some km)] 112)) :=
    AnyZI.keys_gives (ρ := Try.keysA_ren) { Try.keysA with } Fence.wide _ trivial rfl (by omega) w.heap.size km m.length (DataW.map ml) _ (by simp) (by simp) (by
      obtain ⟨es, clock, hb, Ft, hs, hD⟩ := hown
      exact ⟨es, clock, (Below.heap_alloc _ _ km hbl).trans hb, Ft, hs, hD⟩)
  have cK : ∀ mb W, CallsIn Fence.wide 5 Try.prog 83 #[.map mb] W fun e w' => e = .returned (.func (.func 86) #[] #[.pointer (some ⟨W.heap.size, 0, none⟩)]) ∧ w' = W.alloc (.cells #[.map mb] 112) := fun mb W => AnyZI.keys_in Try.keysA Fence.wide 5 trivial rfl mb W
  have cS := AnyZI.sorted_in Try.sortedA Fence.wide 5 trivial trivial trivial trivial rfl (by omega) (Try.sortsA _) (enters_of Try.func85 (by kernel_rfl) rfl) 86 #[.pointer (some ⟨w.heap.size, 0, none⟩)] trivial (enters_of Try.func86 (by kernel_rfl) rfl) _ _ (by rw [hsz]; unfold maxLen; omega) (by rw [hsz]; omega) _ hseq
  change CallsIn _ _ Try.prog 82 _ _ _ at cS
  have hfK : Fence.wide.fn 83 := trivial
  have hfS : Fence.wide.fn 82 := trivial
  clear hown hseq hbl hsz
  refine callsIn_of_wp Try.func79 rfl trivial ?_ rfl
  simp only [Try.ntmps79, List.size_toArray, List.length_cons, List.length_nil, Nat.reduceAdd, Nat.reduceSub, Array.replicate_succ, Array.replicate_zero, List.push_toArray, List.append_toArray, List.nil_append, List.cons_append]
  gi_wp2_with (first
    | (gi_at_call 83; refine (cK _ _).mono ?_; rintro e w' ⟨rfl, rfl⟩)
    | (gi_at_call 82; refine cS.mono ?_; rintro e w' ⟨v, ss, rfl, hS, hrow, hnil, hb⟩))
  go_ret
  obtain ⟨e1, e2⟩ := HFF.out ss hS
  rw [e1, e2] at hrow
  exact ⟨v, rfl, (Row.ofOwns hrow).mono fun k hk => by simp at hk; omega, ((Mod.refl _ _).alloc _).trans (Mod.ofBelow hb) fun _ f => f.elim⟩
set_option maxRecDepth 100000 in
theorem HNodes_any {w : World} {f : Nat → Prop} {hb : Nat} {l : List Life} {G : Int → Option Int} (h : HubAt w f hb l G) (hl : l.length ≤ 1000) :
    Calls Try.prog 62 #[.pointer (some ⟨hb, 0, none⟩)] w fun e w' => ∃ v, e = .returned v ∧ Row w' (fun k => w.heap.size ≤ k) 3 1 v l.length ((l.map Life.node).map (Value.int .i64)) ∧ Mod (fun _ => False) w w' := by
  obtain ⟨km, gm, vbo, c, h, hcf⟩ := h
  have HN := Lib.hid (hnodes_any h hl)
  clear h hcf
  go_enter Try.func62, Try.ntmps62
  go_wp2_with fail
  refine HN.out.mono ?_; rintro e w1 ⟨v, rfl, hr, hm⟩
  have HR := Lib.hid hr
  have HM := Lib.hid hm
  clear hr hm
  go_wp2
  go_ret
  exact ⟨v, rfl, HR.out, HM.out⟩
end Go.Proofs.Ytidkapanpieflaa
