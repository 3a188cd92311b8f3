/- Rows that the caller hands in. -/
import Derived.Test.YtegjamjognpdkaaRdE
import Derived.ProofKit
import Derived.OpenShut
import Derived.Deep.Slices
namespace Go.Proofs.Ytegjamjognpdkaa
open Go.RowKit Go.ChangeShapes Go.WideShapes Go.ChangeAt
set_option linter.unusedVariables false
set_option linter.unusedSimpArgs false
set_option maxRecDepth 100000
theorem plain_at {a : Addr} {w : World} {u : Value} (h : w.cell? a = some u) : ∃ g o, a = ⟨g, o, none⟩ := by
  obtain ⟨g, o, sp⟩ := a
  cases sp with
  | none => exact ⟨g, o, rfl⟩
  | some x =>
    unfold World.cell? at h
    simp at h
    split at h <;> cases h
theorem take_1 {l : List Value} {j : Nat} {v : Value} (h : (l.drop j).take 1 = [v]) : l[j]? = some v := by
  have := congrArg (fun l => l[0]?) h
  simpa [List.getElem?_take, List.getElem?_drop] using this
/-- what is so at each index is so of a function -/
theorem each_fun {α : Type} [Inhabited α] {n : Nat} {p : Nat → α → Prop} (h : ∀ i, i < n → ∃ x, p i x) : ∃ f : Nat → α, ∀ i, i < n → p i (f i) :=
  ⟨fun i => if h' : i < n then Classical.choose (h i h') else default, fun i hi => by
    dsimp only
    rw [dif_pos hi]
    exact Classical.choose_spec (h i hi)⟩
theorem rowC_0' (vlan : Int) (v6 : Bool) (b : List Int) (root : Int) (sv : Value) : (rowC vlan v6 b root sv)[0]? = some (.int .i64 vlan) := rfl
theorem cellsR_all {w : World} {g : Nat} {sv : Nat → Value} : ∀ (rs : List TRow) (k o : Nat), (∀ r ∈ rs, r.b.length = 16) → (∀ j r, rs[j]? = some r → w.rangeAt g (o + j * 20) (r.c (sv (k + j)))) → ∀ i u, (cellsR sv k rs)[i]? = some u → w.cell? ⟨g, o + i, none⟩ = some u
  | [], _, _, _, _, i, u, h => by simp [cellsR] at h
  | r :: rs, k, o, hb, hr, i, u, h => by
    have hl : (r.c (sv k)).length = 20 := rowC_len _ _ _ _ _ (hb r List.mem_cons_self)
    unfold cellsR at h
    rw [List.getElem?_append] at h
    split at h
    · have := hr 0 r rfl i u h
      rwa [Nat.zero_mul, Nat.add_zero] at this
    · have := cellsR_all rs (k + 1) (o + 20) (fun q hq => hb q (List.mem_cons_of_mem _ hq)) (fun j q hj => by
        have := hr (j + 1) q (by simpa using hj)
        rw [show o + 20 + j * 20 = o + (j + 1) * 20 by omega, show k + 1 + j = k + (j + 1) by omega]
        exact this) (i - (r.c (sv k)).length) u h
      rwa [hl, show o + 20 + (i - 20) = o + i by omega] at this
section
variable {H : Type} {enc : TypeId × Value → H} {w : World} {fuel : Nat} {x : DataW H × List MemPlace}
theorem open_next {v : Value} (h : DataW.trod enc Try.prog w 0 (fun _ => true) true fuel 31 [v] = some x) : ∃ zs : List Int, Reads w v zs.length (ints zs) := by
  rcases Go.Deep.open_slice Try.underlying31 h with ⟨hcs, hx⟩ | ⟨a, len, cap, m, n, D, Pl, hcs, _, hl, hm, hmm, hx, hall⟩
  · obtain rfl : v = .slice none 0 0 := by simpa using hcs
    exact ⟨[], none, 0, rfl, Nat.le_refl _, by unfold maxLen; omega, fun h => absurd h (by simp)⟩
  · obtain rfl : v = .slice (some a) len cap := by simpa using hcs
    have hmc : m = cap := by rw [hmm]; simp
    obtain ⟨f, hf⟩ := each_fun (n := len) (p := fun i z => w.cell? (a.add i) = some (.int .i64 z)) fun i hi => by
      obtain ⟨cs', h1, h2⟩ := hall i (by omega)
      rw [show Try.prog.cellsOf 3 = 1 from by kernel_rfl, Nat.mul_one] at h1
      obtain ⟨_, hlen, hcell⟩ := World.cells?_some h1
      obtain ⟨z, hz, _⟩ := DataW.trod_int Try.underlying3 h2
      have c0 := hcell 0 (by omega)
      rw [Go.Deep.add_add, hz] at c0
      exact ⟨z, by simpa using c0⟩
    have hlz : ((List.range len).map f).length = len := by simp
    refine ⟨(List.range len).map f, some a, cap, by rw [hlz], by rw [hlz]; exact hl, hm, fun h0 => ?_⟩
    rw [hlz] at h0
    obtain ⟨g, o, e⟩ := plain_at (hf 0 h0)
    have ha : a = ⟨g, o, none⟩ := by
      obtain ⟨g', o', sp⟩ := a
      cases sp with
      | none => unfold Addr.add at e; simp at e; rw [e.1, e.2]
      | some y => unfold Addr.add at e; simp at e
    subst ha
    refine ⟨g, o, rfl, fun i u hu => ?_⟩
    have hi : i < len := by
      have := (List.getElem?_eq_some_iff.1 hu).1
      simpa [ints] using this
    have := hf i hi
    rw [addr_add] at this
    rw [this, ← hu]
    simp [ints, hi]
theorem addr_open {cs : List Value} (h : DataW.trod enc Try.prog w 0 (fun _ => true) true fuel 36 cs = some x) : ∃ (v6 : Bool) (b : List Int), cs = adrC v6 b ∧ adrOk b := by
  obtain ⟨xs, k, _, _, hl, hxl, hg⟩ := DataW.trod_struct Try.underlying36 h
  rw [show Try.prog.cellsOf 36 = 17 from by kernel_rfl] at hl
  match xs, hxl with
  | [y0, y1], _ =>
    have g0 : DataW.trod enc Try.prog w 0 (fun _ => true) true k 4 (List.take (Try.prog.cellsOf 4) (List.drop 0 cs)) = [y0, y1][0]? := hg 0 _ rfl
    have g1 : DataW.trod enc Try.prog w 0 (fun _ => true) true k 34 (List.take (Try.prog.cellsOf 34) (List.drop 1 cs)) = [y0, y1][1]? := hg 1 _ rfl
    rw [show Try.prog.cellsOf 4 = 1 from by kernel_rfl] at g0
    rw [show Try.prog.cellsOf 34 = 16 from by kernel_rfl] at g1
    obtain ⟨b0, hb0, _⟩ := DataW.trod_bool Try.underlying4 (x := y0) g0
    obtain ⟨zs, m, _, _, _, hzl, hz⟩ := DataW.trod_array Try.underlying34 (x := y1) g1
    obtain ⟨f, hf⟩ := each_fun (n := 16) (p := fun i z => cs[1 + i]? = some (.int .u8 z) ∧ 0 ≤ z ∧ z < 256) fun i hi => by
      have h1 := hz i hi
      rw [show Try.prog.cellsOf 5 = 1 from by kernel_rfl] at h1
      have : zs[i]? = some (zs[i]'(by omega)) := by simp [show i < zs.length by omega]
      rw [this] at h1
      obtain ⟨z, hz2, _, hwf⟩ := DataW.trod_int Try.underlying5 h1
      have h3 := take_1 hz2
      rw [Nat.mul_one, List.getElem?_take, if_pos hi, List.getElem?_drop] at h3
      exact ⟨z, h3, by simp [Lit.wf, IntKind.min, IntKind.max, IntKind.signed, IntKind.bits] at hwf; omega⟩
    refine ⟨b0, (List.range 16).map f, ?_, by simp, fun q hq => ?_⟩
    · apply List.ext_getElem?
      intro i
      have h0 := take_1 (j := 0) hb0
      rcases Nat.lt_or_ge i 17 with hi | hi
      · cases i with
        | zero => rw [h0]; rfl
        | succ i =>
          have := (hf i (by omega)).1
          rw [Nat.add_comm] at this
          rw [this]
          simp [adrC, show i < 16 by omega]
      · rw [List.getElem?_eq_none (by omega), List.getElem?_eq_none (by simp [adrC]; omega)]
    · obtain ⟨i, hi, rfl⟩ := List.mem_map.1 hq
      exact (hf i (List.mem_range.1 hi)).2
theorem row_one {cs : List Value} (h : DataW.trod enc Try.prog w 0 (fun _ => true) true fuel 38 cs = some x) : ∃ (r : TRow) (u : Value), cs = r.c u ∧ adrOk r.b ∧ Reads w u r.next.length (ints r.next) := by
  obtain ⟨xs, k, _, _, hl, hxl, hg⟩ := DataW.trod_struct Try.underlying38 h
  rw [show Try.prog.cellsOf 38 = 20 from by kernel_rfl] at hl
  match xs, hxl with
  | [y0, y1, y2, y3], _ =>
    have g0 : DataW.trod enc Try.prog w 0 (fun _ => true) true k 3 (List.take (Try.prog.cellsOf 3) (List.drop 0 cs)) = [y0, y1, y2, y3][0]? := hg 0 _ rfl
    have g1 : DataW.trod enc Try.prog w 0 (fun _ => true) true k 36 (List.take (Try.prog.cellsOf 36) (List.drop 1 cs)) = [y0, y1, y2, y3][1]? := hg 1 _ rfl
    have g2 : DataW.trod enc Try.prog w 0 (fun _ => true) true k 3 (List.take (Try.prog.cellsOf 3) (List.drop 18 cs)) = [y0, y1, y2, y3][2]? := hg 2 _ rfl
    have g3 : DataW.trod enc Try.prog w 0 (fun _ => true) true k 31 (List.take (Try.prog.cellsOf 31) (List.drop 19 cs)) = [y0, y1, y2, y3][3]? := hg 3 _ rfl
    rw [show Try.prog.cellsOf 3 = 1 from by kernel_rfl] at g0 g2
    rw [show Try.prog.cellsOf 36 = 17 from by kernel_rfl] at g1
    rw [show Try.prog.cellsOf 31 = 1 from by kernel_rfl] at g3
    obtain ⟨a, ha, _⟩ := DataW.trod_int Try.underlying3 (x := y0) g0
    obtain ⟨v6, b, hb, hok⟩ := addr_open (x := y1) g1
    obtain ⟨c, hc, _⟩ := DataW.trod_int Try.underlying3 (x := y2) g2
    have e19 : (cs.drop 19).take 1 = [cs.getD 19 undef] := by
      have : 19 < cs.length := by omega
      rw [show cs.getD 19 undef = cs[19] by simp [List.getD, this], List.drop_eq_getElem_cons this]
      rfl
    rw [e19] at g3
    obtain ⟨zs, hzs⟩ := open_next (x := y3) g3
    refine ⟨⟨a, v6, b, c, zs⟩, cs.getD 19 undef, ?_, hok, hzs⟩
    have s0 : cs = cs.take 1 ++ (cs.drop 1).take 17 ++ (cs.drop 18).take 1 ++ (cs.drop 19).take 1 := by
      have h1 : cs = cs.take 1 ++ cs.drop 1 := (List.take_append_drop 1 cs).symm
      have h2 : cs.drop 1 = (cs.drop 1).take 17 ++ (cs.drop 1).drop 17 := (List.take_append_drop 17 _).symm
      have h3 : cs.drop 18 = (cs.drop 18).take 1 ++ (cs.drop 18).drop 1 := (List.take_append_drop 1 _).symm
      rw [List.drop_drop] at h2 h3
      have h4 : (cs.drop 19).take 1 = cs.drop 19 := List.take_of_length_le (by rw [List.length_drop]; omega)
      conv => lhs; rw [h1, h2, h3]
      rw [h4, List.append_assoc, List.append_assoc]
    have ha' : cs.take 1 = [.int .i64 a] := by simpa using ha
    conv => lhs; rw [s0, ha', hb, hc, e19]
    simp [TRow.c, rowC]
theorem open_rows {v : Value} (h : DataW.trod enc Try.prog w 0 (fun _ => true) true fuel 22 [v] = some x) : ∃ rs sv, RowsAt w v rs sv := by
  rcases Go.Deep.open_slice Try.underlying22 h with ⟨hcs, hx⟩ | ⟨a, len, cap, m, n, D, Pl, hcs, _, hl, hm, hmm, hx, hall⟩
  · obtain rfl : v = .slice none 0 0 := by simpa using hcs
    exact ⟨[], fun _ => .slice none 0 0, (RowsOwn.nil w (fun _ => True) _).at⟩
  · obtain rfl : v = .slice (some a) len cap := by simpa using hcs
    have hmc : m = cap := by rw [hmm]; simp
    haveI : Inhabited (TRow × Value) := ⟨(⟨0, false, [], 0, []⟩, undef)⟩
    obtain ⟨f, hf⟩ := each_fun (n := len) (p := fun i (z : TRow × Value) => (∀ j u, (z.1.c z.2)[j]? = some u → w.cell? (a.add (i * 20 + j)) = some u) ∧ adrOk z.1.b ∧ Reads w z.2 z.1.next.length (ints z.1.next)) fun i hi => by
      obtain ⟨cs', h1, h2⟩ := hall i (by omega)
      rw [show Try.prog.cellsOf 38 = 20 from by kernel_rfl] at h1
      obtain ⟨_, hlen, hcell⟩ := World.cells?_some h1
      obtain ⟨r, u, rfl, hok, hrd⟩ := row_one h2
      refine ⟨(r, u), fun j y hy => ?_, hok, hrd⟩
      have hj : j < (r.c u).length := (List.getElem?_eq_some_iff.1 hy).1
      have c0 := hcell j (by omega)
      rw [Go.Deep.add_add] at c0
      rw [c0]
      exact hy
    have hlz : ((List.range len).map fun i => (f i).1).length = len := by simp
    have hget : ∀ j r, ((List.range len).map fun i => (f i).1)[j]? = some r → j < len ∧ r = (f j).1 := fun j r hj => by
      have hjl := (List.getElem?_eq_some_iff.1 hj).1
      rw [hlz] at hjl
      simp [hjl] at hj
      exact ⟨hjl, hj.symm⟩
    have hok : rowsOk ((List.range len).map fun i => (f i).1) := fun r hr => by
      obtain ⟨i, hi, rfl⟩ := List.mem_map.1 hr
      exact (hf i (List.mem_range.1 hi)).2.1
    refine ⟨(List.range len).map fun i => (f i).1, fun i => (f i).2, ⟨some a, cap, by rw [hlz], by rw [hlz]; exact hl, hm, fun h0 => ?_⟩, hok, fun j r hj => by
      obtain ⟨h1, rfl⟩ := hget j r hj
      exact (hf j h1).2.2⟩
    rw [hlz] at h0
    have hc0 := (hf 0 h0).1 0 _ (rowC_0' _ _ _ _ _)
    obtain ⟨g, o, e⟩ := plain_at hc0
    have ha : a = ⟨g, o, none⟩ := by
      obtain ⟨g', o', sp⟩ := a
      cases sp with
      | none => unfold Addr.add at e; simp at e; rw [e.1, e.2]
      | some y => unfold Addr.add at e; simp at e
    subst ha
    refine ⟨g, o, rfl, cellsR_all _ 0 o (fun r hr => (hok r hr).1) fun j r hj i u hu => ?_⟩
    obtain ⟨h1, rfl⟩ := hget j r hj
    rw [Nat.zero_add] at hu
    have := (hf j h1).1 i u hu
    rw [addr_add] at this
    rw [Nat.add_assoc]
    exact this
end
theorem open_rowsV {H : Type} {enc : TypeId × Value → H} {w : World} {base : Nat} {v : Value} {d : DataW H} {p : List MemPlace} (hk : Value.okWide Try.prog w .any base 22 v) (h : DataW.Trod enc Try.prog w 0 (fun _ => true) true 22 v d p) :
    ∃ rs sv, RowsAt w v rs sv := by
  obtain ⟨a0, len, cap, rfl⟩ := okWide_slice Try.underlying22 hk
  obtain ⟨fuel, hf⟩ := h
  exact open_rows (by simpa [Value.cells] using hf)
end Go.Proofs.Ytegjamjognpdkaa
