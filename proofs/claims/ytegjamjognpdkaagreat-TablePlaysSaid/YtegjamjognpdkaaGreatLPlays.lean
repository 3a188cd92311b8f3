/- The law TablePlays holds: for every input it returns true, and its arguments read as they did. -/
import Derived.Test.YtegjamjognpdkaaGreatRdE
import Derived.ProofKit
import Derived.OpenShut
import Derived.Deep.Slices
import Derived.Test.YtegjamjognpdkaaGreatPlayA
import Derived.Test.YtegjamjognpdkaaGreatSym
import Derived.Test.YtegjamjognpdkaaGreatRows
import Derived.WalkKit
import Derived.Test.YtegjamjognpdkaaGreatPlays
import Derived.SizedLaws
import Derived.Lib.SmallJoins
import Derived.Deep.SlicePairs
namespace Go.Proofs.YtegjamjognpdkaaGreat
open Go.RowKit Go.ChangeShapes Go.WideShapes Go.ChangeAt
set_option linter.unusedVariables false
set_option linter.unusedSimpArgs false
set_option maxRecDepth 100000
theorem plain_at {a : Addr} {w : World} {u : Value} (h : w.cell? a = some u) : ∃ g o, a = ⟨g, o, none⟩ := by
  obtain ⟨g, o, sp⟩ := a
  cases sp with
  | none => exact ⟨g, o, rfl⟩
  | some x =>
    unfold World.cell? at h
    simp at h
    split at h <;> cases h
theorem take_1 {l : List Value} {j : Nat} {v : Value} (h : (l.drop j).take 1 = [v]) : l[j]? = some v := by
  have := congrArg (fun l => l[0]?) h
  simpa [List.getElem?_take, List.getElem?_drop] using this
/-- what is so at each index is so of a function -/
theorem each_fun {α : Type} [Inhabited α] {n : Nat} {p : Nat → α → Prop} (h : ∀ i, i < n → ∃ x, p i x) : ∃ f : Nat → α, ∀ i, i < n → p i (f i) :=
  ⟨fun i => if h' : i < n then Classical.choose (h i h') else default, fun i hi => by
    dsimp only
    rw [dif_pos hi]
    exact Classical.choose_spec (h i hi)⟩
theorem rowC_0' (vlan : Int) (v6 : Bool) (b : List Int) (root : Int) (sv : Value) : (rowC vlan v6 b root sv)[0]? = some (.int .i64 vlan) := rfl
theorem cellsR_all {w : World} {g : Nat} {sv : Nat → Value} : ∀ (rs : List TRow) (k o : Nat), (∀ r ∈ rs, r.b.length = 16) → (∀ j r, rs[j]? = some r → w.rangeAt g (o + j * 20) (r.c (sv (k + j)))) → ∀ i u, (cellsR sv k rs)[i]? = some u → w.cell? ⟨g, o + i, none⟩ = some u
  | [], _, _, _, _, i, u, h => by simp [cellsR] at h
  | r :: rs, k, o, hb, hr, i, u, h => by
    have hl : (r.c (sv k)).length = 20 := rowC_len _ _ _ _ _ (hb r List.mem_cons_self)
    unfold cellsR at h
    rw [List.getElem?_append] at h
    split at h
    · have := hr 0 r rfl i u h
      rwa [Nat.zero_mul, Nat.add_zero] at this
    · have := cellsR_all rs (k + 1) (o + 20) (fun q hq => hb q (List.mem_cons_of_mem _ hq)) (fun j q hj => by
        have := hr (j + 1) q (by simpa using hj)
        rw [show o + 20 + j * 20 = o + (j + 1) * 20 by omega, show k + 1 + j = k + (j + 1) by omega]
        exact this) (i - (r.c (sv k)).length) u h
      rwa [hl, show o + 20 + (i - 20) = o + i by omega] at this
section
variable {H : Type} {enc : TypeId × Value → H} {w : World} {fuel : Nat} {x : DataW H × List MemPlace}
theorem open_next {v : Value} (h : DataW.trod enc Tryz.prog w 0 (fun _ => true) true fuel 26 [v] = some x) : ∃ zs : List Int, Reads w v zs.length (ints zs) := by
  rcases Go.Deep.open_slice Tryz.underlying26 h with ⟨hcs, hx⟩ | ⟨a, len, cap, m, n, D, Pl, hcs, _, hl, hm, hmm, hx, hall⟩
  · obtain rfl : v = .slice none 0 0 := by simpa using hcs
    exact ⟨[], none, 0, rfl, Nat.le_refl _, by unfold maxLen; omega, fun h => absurd h (by simp)⟩
  · obtain rfl : v = .slice (some a) len cap := by simpa using hcs
    have hmc : m = cap := by rw [hmm]; simp
    obtain ⟨f, hf⟩ := each_fun (n := len) (p := fun i z => w.cell? (a.add i) = some (.int .i64 z)) fun i hi => by
      obtain ⟨cs', h1, h2⟩ := hall i (by omega)
      rw [show Tryz.prog.cellsOf 3 = 1 from by kernel_rfl, Nat.mul_one] at h1
      obtain ⟨_, hlen, hcell⟩ := World.cells?_some h1
      obtain ⟨z, hz, _⟩ := DataW.trod_int Tryz.underlying3 h2
      have c0 := hcell 0 (by omega)
      rw [Go.Deep.add_add, hz] at c0
      exact ⟨z, by simpa using c0⟩
    have hlz : ((List.range len).map f).length = len := by simp
    refine ⟨(List.range len).map f, some a, cap, by rw [hlz], by rw [hlz]; exact hl, hm, fun h0 => ?_⟩
    rw [hlz] at h0
    obtain ⟨g, o, e⟩ := plain_at (hf 0 h0)
    have ha : a = ⟨g, o, none⟩ := by
      obtain ⟨g', o', sp⟩ := a
      cases sp with
      | none => unfold Addr.add at e; simp at e; rw [e.1, e.2]
      | some y => unfold Addr.add at e; simp at e
    subst ha
    refine ⟨g, o, rfl, fun i u hu => ?_⟩
    have hi : i < len := by
      have := (List.getElem?_eq_some_iff.1 hu).1
      simpa [ints] using this
    have := hf i hi
    rw [addr_add] at this
    rw [this, ← hu]
    simp [ints, hi]
theorem addr_open {cs : List Value} (h : DataW.trod enc Tryz.prog w 0 (fun _ => true) true fuel 25 cs = some x) : ∃ (v6 : Bool) (b : List Int), cs = adrC v6 b ∧ adrOk b := by
  obtain ⟨xs, k, _, _, hl, hxl, hg⟩ := DataW.trod_struct Tryz.underlying25 h
  rw [show Tryz.prog.cellsOf 25 = 17 from by kernel_rfl] at hl
  match xs, hxl with
  | [y0, y1], _ =>
    have g0 : DataW.trod enc Tryz.prog w 0 (fun _ => true) true k 4 (List.take (Tryz.prog.cellsOf 4) (List.drop 0 cs)) = [y0, y1][0]? := hg 0 _ rfl
    have g1 : DataW.trod enc Tryz.prog w 0 (fun _ => true) true k 23 (List.take (Tryz.prog.cellsOf 23) (List.drop 1 cs)) = [y0, y1][1]? := hg 1 _ rfl
    rw [show Tryz.prog.cellsOf 4 = 1 from by kernel_rfl] at g0
    rw [show Tryz.prog.cellsOf 23 = 16 from by kernel_rfl] at g1
    obtain ⟨b0, hb0, _⟩ := DataW.trod_bool Tryz.underlying4 (x := y0) g0
    obtain ⟨zs, m, _, _, _, hzl, hz⟩ := DataW.trod_array Tryz.underlying23 (x := y1) g1
    obtain ⟨f, hf⟩ := each_fun (n := 16) (p := fun i z => cs[1 + i]? = some (.int .u8 z) ∧ 0 ≤ z ∧ z < 256) fun i hi => by
      have h1 := hz i hi
      rw [show Tryz.prog.cellsOf 5 = 1 from by kernel_rfl] at h1
      have : zs[i]? = some (zs[i]'(by omega)) := by simp [show i < zs.length by omega]
      rw [this] at h1
      obtain ⟨z, hz2, _, hwf⟩ := DataW.trod_int Tryz.underlying5 h1
      have h3 := take_1 hz2
      rw [Nat.mul_one, List.getElem?_take, if_pos hi, List.getElem?_drop] at h3
      exact ⟨z, h3, by simp [Lit.wf, IntKind.min, IntKind.max, IntKind.signed, IntKind.bits] at hwf; omega⟩
    refine ⟨b0, (List.range 16).map f, ?_, by simp, fun q hq => ?_⟩
    · apply List.ext_getElem?
      intro i
      have h0 := take_1 (j := 0) hb0
      rcases Nat.lt_or_ge i 17 with hi | hi
      · cases i with
        | zero => rw [h0]; rfl
        | succ i =>
          have := (hf i (by omega)).1
          rw [Nat.add_comm] at this
          rw [this]
          simp [adrC, show i < 16 by omega]
      · rw [List.getElem?_eq_none (by omega), List.getElem?_eq_none (by simp [adrC]; omega)]
    · obtain ⟨i, hi, rfl⟩ := List.mem_map.1 hq
      exact (hf i (List.mem_range.1 hi)).2
theorem row_one {cs : List Value} (h : DataW.trod enc Tryz.prog w 0 (fun _ => true) true fuel 28 cs = some x) : ∃ (r : TRow) (u : Value), cs = r.c u ∧ adrOk r.b ∧ Reads w u r.next.length (ints r.next) := by
  obtain ⟨xs, k, _, _, hl, hxl, hg⟩ := DataW.trod_struct Tryz.underlying28 h
  rw [show Tryz.prog.cellsOf 28 = 20 from by kernel_rfl] at hl
  match xs, hxl with
  | [y0, y1, y2, y3], _ =>
    have g0 : DataW.trod enc Tryz.prog w 0 (fun _ => true) true k 3 (List.take (Tryz.prog.cellsOf 3) (List.drop 0 cs)) = [y0, y1, y2, y3][0]? := hg 0 _ rfl
    have g1 : DataW.trod enc Tryz.prog w 0 (fun _ => true) true k 25 (List.take (Tryz.prog.cellsOf 25) (List.drop 1 cs)) = [y0, y1, y2, y3][1]? := hg 1 _ rfl
    have g2 : DataW.trod enc Tryz.prog w 0 (fun _ => true) true k 3 (List.take (Tryz.prog.cellsOf 3) (List.drop 18 cs)) = [y0, y1, y2, y3][2]? := hg 2 _ rfl
    have g3 : DataW.trod enc Tryz.prog w 0 (fun _ => true) true k 26 (List.take (Tryz.prog.cellsOf 26) (List.drop 19 cs)) = [y0, y1, y2, y3][3]? := hg 3 _ rfl
    rw [show Tryz.prog.cellsOf 3 = 1 from by kernel_rfl] at g0 g2
    rw [show Tryz.prog.cellsOf 25 = 17 from by kernel_rfl] at g1
    rw [show Tryz.prog.cellsOf 26 = 1 from by kernel_rfl] at g3
    obtain ⟨a, ha, _⟩ := DataW.trod_int Tryz.underlying3 (x := y0) g0
    obtain ⟨v6, b, hb, hok⟩ := addr_open (x := y1) g1
    obtain ⟨c, hc, _⟩ := DataW.trod_int Tryz.underlying3 (x := y2) g2
    have e19 : (cs.drop 19).take 1 = [cs.getD 19 undef] := by
      have : 19 < cs.length := by omega
      rw [show cs.getD 19 undef = cs[19] by simp [List.getD, this], List.drop_eq_getElem_cons this]
      rfl
    rw [e19] at g3
    obtain ⟨zs, hzs⟩ := open_next (x := y3) g3
    refine ⟨⟨a, v6, b, c, zs⟩, cs.getD 19 undef, ?_, hok, hzs⟩
    have s0 : cs = cs.take 1 ++ (cs.drop 1).take 17 ++ (cs.drop 18).take 1 ++ (cs.drop 19).take 1 := by
      have h1 : cs = cs.take 1 ++ cs.drop 1 := (List.take_append_drop 1 cs).symm
      have h2 : cs.drop 1 = (cs.drop 1).take 17 ++ (cs.drop 1).drop 17 := (List.take_append_drop 17 _).symm
      have h3 : cs.drop 18 = (cs.drop 18).take 1 ++ (cs.drop 18).drop 1 := (List.take_append_drop 1 _).symm
      rw [List.drop_drop] at h2 h3
      have h4 : (cs.drop 19).take 1 = cs.drop 19 := List.take_of_length_le (by rw [List.length_drop]; omega)
      conv => lhs; rw [h1, h2, h3]
      rw [h4, List.append_assoc, List.append_assoc]
    have ha' : cs.take 1 = [.int .i64 a] := by simpa using ha
    conv => lhs; rw [s0, ha', hb, hc, e19]
    simp [TRow.c, rowC]
theorem open_rows {v : Value} (h : DataW.trod enc Tryz.prog w 0 (fun _ => true) true fuel 36 [v] = some x) : ∃ rs sv, RowsAt w v rs sv := by
  rcases Go.Deep.open_slice Tryz.underlying36 h with ⟨hcs, hx⟩ | ⟨a, len, cap, m, n, D, Pl, hcs, _, hl, hm, hmm, hx, hall⟩
  · obtain rfl : v = .slice none 0 0 := by simpa using hcs
    exact ⟨[], fun _ => .slice none 0 0, (RowsOwn.nil w (fun _ => True) _).at⟩
  · obtain rfl : v = .slice (some a) len cap := by simpa using hcs
    have hmc : m = cap := by rw [hmm]; simp
    haveI : Inhabited (TRow × Value) := ⟨(⟨0, false, [], 0, []⟩, undef)⟩
    obtain ⟨f, hf⟩ := each_fun (n := len) (p := fun i (z : TRow × Value) => (∀ j u, (z.1.c z.2)[j]? = some u → w.cell? (a.add (i * 20 + j)) = some u) ∧ adrOk z.1.b ∧ Reads w z.2 z.1.next.length (ints z.1.next)) fun i hi => by
      obtain ⟨cs', h1, h2⟩ := hall i (by omega)
      rw [show Tryz.prog.cellsOf 28 = 20 from by kernel_rfl] at h1
      obtain ⟨_, hlen, hcell⟩ := World.cells?_some h1
      obtain ⟨r, u, rfl, hok, hrd⟩ := row_one h2
      refine ⟨(r, u), fun j y hy => ?_, hok, hrd⟩
      have hj : j < (r.c u).length := (List.getElem?_eq_some_iff.1 hy).1
      have c0 := hcell j (by omega)
      rw [Go.Deep.add_add] at c0
      rw [c0]
      exact hy
    have hlz : ((List.range len).map fun i => (f i).1).length = len := by simp
    have hget : ∀ j r, ((List.range len).map fun i => (f i).1)[j]? = some r → j < len ∧ r = (f j).1 := fun j r hj => by
      have hjl := (List.getElem?_eq_some_iff.1 hj).1
      rw [hlz] at hjl
      simp [hjl] at hj
      exact ⟨hjl, hj.symm⟩
    have hok : rowsOk ((List.range len).map fun i => (f i).1) := fun r hr => by
      obtain ⟨i, hi, rfl⟩ := List.mem_map.1 hr
      exact (hf i (List.mem_range.1 hi)).2.1
    refine ⟨(List.range len).map fun i => (f i).1, fun i => (f i).2, ⟨some a, cap, by rw [hlz], by rw [hlz]; exact hl, hm, fun h0 => ?_⟩, hok, fun j r hj => by
      obtain ⟨h1, rfl⟩ := hget j r hj
      exact (hf j h1).2.2⟩
    rw [hlz] at h0
    have hc0 := (hf 0 h0).1 0 _ (rowC_0' _ _ _ _ _)
    obtain ⟨g, o, e⟩ := plain_at hc0
    have ha : a = ⟨g, o, none⟩ := by
      obtain ⟨g', o', sp⟩ := a
      cases sp with
      | none => unfold Addr.add at e; simp at e; rw [e.1, e.2]
      | some y => unfold Addr.add at e; simp at e
    subst ha
    refine ⟨g, o, rfl, cellsR_all _ 0 o (fun r hr => (hok r hr).1) fun j r hj i u hu => ?_⟩
    obtain ⟨h1, rfl⟩ := hget j r hj
    rw [Nat.zero_add] at hu
    have := (hf j h1).1 i u hu
    rw [addr_add] at this
    rw [Nat.add_assoc]
    exact this
end
theorem open_rowsV {H : Type} {enc : TypeId × Value → H} {w : World} {base : Nat} {v : Value} {d : DataW H} {p : List MemPlace} (hk : Value.okWide Tryz.prog w .any base 36 v) (h : DataW.Trod enc Tryz.prog w 0 (fun _ => true) true 36 v d p) :
    ∃ rs sv, RowsAt w v rs sv := by
  obtain ⟨a0, len, cap, rfl⟩ := okWide_slice Tryz.underlying36 hk
  obtain ⟨fuel, hf⟩ := h
  exact open_rows (by simpa [Value.cells] using hf)
end Go.Proofs.YtegjamjognpdkaaGreat
namespace Go.Proofs.YtegjamjognpdkaaGreat
open Go.RowKit Go.ChangeShapes Go.WideShapes Go.ChangeAt
set_option linter.unusedVariables false
set_option linter.unusedSimpArgs false
set_option maxRecDepth 100000
theorem u32_bdA {a : Int} (h : (Lit.int .u32 a).wf = true) : 0 ≤ a ∧ a < 4294967296 := by simp [Lit.wf, IntKind.min, IntKind.max, IntKind.signed, IntKind.bits] at h; omega
theorem cellsA_len : ∀ al : List AE, (cellsA al).length = al.length * 3
  | [] => rfl
  | a :: al => by
    have := cellsA_len al
    simp only [cellsA, List.length_cons, this]
    omega
theorem cellsA_all {w : World} {g : Nat} : ∀ (al : List AE) (o : Nat), (∀ j a, al[j]? = some a → ∀ i u, a.c[i]? = some u → w.cell? ⟨g, o + j * 3 + i, none⟩ = some u) → ∀ i u, (cellsA al)[i]? = some u → w.cell? ⟨g, o + i, none⟩ = some u
  | [], _, _, i, u, h => by simp [cellsA] at h
  | a :: al, o, hr, i, u, h => by
    match i, h with
    | 0, h => have := hr 0 a rfl 0 u h; rwa [Nat.zero_mul, Nat.add_zero] at this
    | 1, h => have := hr 0 a rfl 1 u h; rwa [Nat.zero_mul, Nat.add_zero] at this
    | 2, h => have := hr 0 a rfl 2 u h; rwa [Nat.zero_mul, Nat.add_zero] at this
    | i + 3, h =>
      have h' : (cellsA al)[i]? = some u := h
      have := cellsA_all al (o + 3) (fun j b hj i u hu => by
        have := hr (j + 1) b (by simpa using hj) i u hu
        rwa [show o + (j + 1) * 3 + i = o + 3 + j * 3 + i by omega] at this) i u h'
      rwa [show o + 3 + i = o + (i + 3) by omega] at this
theorem open_acts {H : Type} {enc : TypeId × Value → H} {w : World} {base : Nat} {v : Value} {d : DataW H} {p : List MemPlace} (hk : Value.okWide Tryz.prog w .any base 22 v) (h : DataW.Trod enc Tryz.prog w 0 (fun _ => true) true 22 v d p) :
    ∃ al, ActsAt w v al := by
  obtain ⟨a0, len, cap, rfl⟩ := okWide_slice Tryz.underlying22 hk
  obtain ⟨fuel, hf⟩ := h
  rcases Go.Deep.open_slice Tryz.underlying22 hf with ⟨hcs, hx⟩ | ⟨a, len', cap', m, n, D, Pl, hcs, _, hl, hm, hmm, hx, hall⟩
  · simp [Value.cells] at hcs
    obtain ⟨rfl, rfl, rfl⟩ := hcs
    exact ⟨[], ⟨none, 0, rfl, Nat.le_refl _, by unfold maxLen; omega, fun h => absurd h (by simp)⟩, fun a ha => by cases ha⟩
  · simp [Value.cells] at hcs
    obtain ⟨rfl, rfl, rfl⟩ := hcs
    have hmc : m = cap := by rw [hmm]; simp
    haveI : Inhabited AE := ⟨⟨0, 0, [], undef⟩⟩
    obtain ⟨f, hf2⟩ := each_fun (n := len) (p := fun i (z : AE) => (∀ j u, z.c[j]? = some u → w.cell? (a.add (i * 3 + j)) = some u) ∧ (0 ≤ z.v ∧ z.v < 4294967296) ∧ ∃ sv, RowsAt w z.lv z.rs sv) fun i hi => by
      obtain ⟨cs', h1, h2⟩ := hall i (by omega)
      rw [show Tryz.prog.cellsOf 38 = 3 from by kernel_rfl] at h1
      obtain ⟨_, hlen, hcell⟩ := World.cells?_some h1
      obtain ⟨xs, k, _, _, _, hxl, hg⟩ := DataW.trod_struct Tryz.underlying38 h2
      match xs, hxl, cs', hlen with
      | [y0, y1, y2], _, [v0, v1, v2], _ =>
        have g0 : DataW.trod enc Tryz.prog w 0 (fun _ => true) true k 3 (List.take (Tryz.prog.cellsOf 3) (List.drop 0 [v0, v1, v2])) = [y0, y1, y2][0]? := hg 0 _ rfl
        have g1 : DataW.trod enc Tryz.prog w 0 (fun _ => true) true k 29 (List.take (Tryz.prog.cellsOf 29) (List.drop 1 [v0, v1, v2])) = [y0, y1, y2][1]? := hg 1 _ rfl
        have g2 : DataW.trod enc Tryz.prog w 0 (fun _ => true) true k 36 (List.take (Tryz.prog.cellsOf 36) (List.drop 2 [v0, v1, v2])) = [y0, y1, y2][2]? := hg 2 _ rfl
        rw [show Tryz.prog.cellsOf 3 = 1 from by kernel_rfl] at g0
        rw [show Tryz.prog.cellsOf 29 = 1 from by kernel_rfl] at g1
        rw [show Tryz.prog.cellsOf 36 = 1 from by kernel_rfl] at g2
        obtain ⟨z0, e0, _, _⟩ := DataW.trod_int Tryz.underlying3 (by simpa using g0)
        obtain ⟨z1, e1, _, b1⟩ := DataW.trod_int Tryz.underlying29 (by simpa using g1)
        obtain ⟨rs, sv, hrs⟩ := open_rows (v := v2) (x := y2) (by simpa using g2)
        simp at e0 e1
        subst e0 e1
        refine ⟨⟨z0, z1, rs, v2⟩, fun j u hu => ?_, u32_bdA b1, sv, hrs⟩
        have hj : j < 3 := (List.getElem?_eq_some_iff.1 hu).1
        have c0 := hcell j (by omega)
        rw [Go.Deep.add_add] at c0
        rw [c0]
        exact hu
    have hlz : ((List.range len).map f).length = len := by simp
    have hget : ∀ j r, ((List.range len).map f)[j]? = some r → j < len ∧ r = f j := fun j r hj => by
      have hjl := (List.getElem?_eq_some_iff.1 hj).1
      rw [hlz] at hjl
      simp [hjl] at hj
      exact ⟨hjl, hj.symm⟩
    refine ⟨(List.range len).map f, ⟨some a, cap, by rw [hlz], by rw [hlz]; exact hl, hm, fun h0 => ?_⟩, fun r hr => by
      obtain ⟨i, hi, rfl⟩ := List.mem_map.1 hr
      exact (hf2 i (List.mem_range.1 hi)).2⟩
    rw [hlz] at h0
    have hc0 := (hf2 0 h0).1 0 _ rfl
    obtain ⟨g, o, e⟩ := plain_at hc0
    have ha : a = ⟨g, o, none⟩ := by
      obtain ⟨g', o', sp⟩ := a
      cases sp with
      | none => unfold Addr.add at e; simp at e; rw [e.1, e.2]
      | some y => unfold Addr.add at e; simp at e
    subst ha
    refine ⟨g, o, rfl, cellsA_all _ o fun j r hj i u hu => ?_⟩
    obtain ⟨h1, rfl⟩ := hget j r hj
    have := (hf2 j h1).1 i u hu
    rw [addr_add] at this
    rw [Nat.add_assoc]
    exact this
theorem open_row1 {H : Type} {enc : TypeId × Value → H} {w : World} {base : Nat} {v : Value} {d : DataW H} {p : List MemPlace} (hk : Value.okWide Tryz.prog w .any base 28 v) (h : DataW.Trod enc Tryz.prog w 0 (fun _ => true) true 28 v d p) :
    ∃ (r : TRow) (u : Value), v = .agg (r.c u).toArray ∧ r.b.length = 16 ∧ u.oneCell' = true := by
  obtain ⟨l, rfl, hl, ho⟩ := R.ok_agg Tryz.underlying28 rfl hk
  obtain ⟨fuel, h⟩ := h
  have h' : DataW.trod enc Tryz.prog w 0 (fun _ => true) true fuel 28 l = some (d, p) := by simpa [Value.cells] using h
  obtain ⟨r, u, rfl, hok, _⟩ := row_one h'
  refine ⟨r, u, rfl, hok.1, ho u ?_⟩
  unfold TRow.c rowC
  simp
end Go.Proofs.YtegjamjognpdkaaGreat
namespace Go.Proofs.YtegjamjognpdkaaGreat.tablePlays
open Go.ChangeShapes Go.WideShapes Go.ChangeAt Go.RowKit
set_option linter.unusedVariables false
set_option linter.unusedSimpArgs false
theorem own : ownKnob Tryz.prog.godebug = none := by kernel_rfl
theorem laidOut : laidOutB Tryz.prog = true := by kernel_rfl

set_option maxRecDepth 100000 in
theorem lifted (os : Os) (started : os.Started) (H : Type) (enc : TypeId × Value → H) :
    ReturnsInHanded {} Tryz.checked os 3 .any (Rows.tablePlaysSpec.pre6 enc Tryz.prog Tryz.f3 Rows.tablePlaysRow.domain false) (Rows.tablePlaysSpec.post enc Tryz.prog Tryz.f3 false true false false) := by
  refine returnsInHanded_of_change (C := Tryz.checked) own started (by kernel_rfl) Tryz.func3
    (ChangeSpec.witness6 (enc := enc) (C := Tryz.checked) false ⟨#[], #[.slice none 0 0, .agg #[.int .i64 0, .bool false, .int .u8 0, .int .u8 0, .int .u8 0, .int .u8 0, .int .u8 0, .int .u8 0, .int .u8 0, .int .u8 0, .int .u8 0, .int .u8 0, .int .u8 0, .int .u8 0, .int .u8 0, .int .u8 0, .int .u8 0, .int .u8 0, .int .i64 0, .slice none 0 0], .int .u32 0], []⟩ 8 (by kernel_rfl) (by kernel_rfl) (by kernel_rfl) (by kernel_rfl)) ?_
  intro W base args ds gs before hval0 hW hcnd _
  have hval : ∀ (j : Nat) t v, Tryz.f3.params[j]? = some t → args[j]? = some v → Value.okWide Tryz.prog W .any base t v := hval0
  have hW' := hW
  obtain ⟨p, q, hA0, hV, rfl, hfz, hnd⟩ := hW
  have hA : DataW.TrodAll enc Tryz.prog W 0 (fun _ => true) true Tryz.f3.params.toList args.toList ds p := hA0
  rw [Tryz.params3] at hA hval
  obtain ⟨v0, vs0, d0, ds0, p0, q0, hargs, rfl, rfl, h0, r0⟩ := trodAll_cons hA
  obtain ⟨v1, vs1, d1, ds1, p1, q1, rfl, rfl, rfl, h1, r1⟩ := trodAll_cons r0
  obtain ⟨v2, vs2, d2, ds2, p2, q2, rfl, rfl, rfl, h2, r2⟩ := trodAll_cons r1
  obtain ⟨rfl, rfl, rfl⟩ := trodAll_nil r2
  obtain rfl : args = #[v0, v1, v2] := by cases args; simp_all
  obtain ⟨rfl, rfl⟩ := trodVars_none hV
  clear hA0 hval0 hA
  simp only [List.append_nil] at hW'
  have t0 : ∀ (W' : World), Below W.heap.size W W' → DataW.Trod enc Tryz.prog W' 0 (fun b => decide (b < W.heap.size)) true 22 v0 d0 p0 :=
    fun W' hn => Below.trod laidOut (by kernel_rfl) (of_decide_eq_true (by kernel_rfl)) h0 hn (fun x hx => hW'.lt x (by simp [hx]))
  have t1 : ∀ (W' : World), Below W.heap.size W W' → DataW.Trod enc Tryz.prog W' 0 (fun b => decide (b < W.heap.size)) true 28 v1 d1 p1 :=
    fun W' hn => Below.trod laidOut (by kernel_rfl) (of_decide_eq_true (by kernel_rfl)) h1 hn (fun x hx => hW'.lt x (by simp [hx]))
  have t2 : ∀ (W' : World), Below W.heap.size W W' → DataW.Trod enc Tryz.prog W' 0 (fun b => decide (b < W.heap.size)) true 29 v2 d2 p2 :=
    fun W' hn => Below.trod laidOut (by kernel_rfl) (of_decide_eq_true (by kernel_rfl)) h2 hn (fun x hx => hW'.lt x (by simp [hx]))
  have k0 := hval 0 22 v0 rfl rfl
  have k1 := hval 1 28 v1 rfl rfl
  have k2 := hval 2 29 v2 rfl rfl
  clear hval
  obtain ⟨al, hal⟩ := open_acts k0 h0
  obtain ⟨rw1, sw1, rfl, hb1, ho1⟩ := open_row1 k1 h1
  obtain ⟨a2, rfl, rfl, rfl, w2⟩ := open_int Tryz.underlying29 k2 h2
  refine (plays_walk W v0 al rw1 sw1 a2 hal hb1 ho1 (u32_bdA w2)).mono fun e W' ⟨he, hg⟩ => ?_
  subst he
  exact ⟨_, rfl, _, _, _, [], _, [], hW', (trodAll_cons_mk (shut_bool Tryz.underlying4 _) trodAll_mk0), (trodAll_cons_mk (t0 _ hg.below) (trodAll_cons_mk (t1 _ hg.below) (trodAll_cons_mk (t2 _ hg.below) trodAll_mk0))), rfl, hg.below.frame _, fun h => by cases h⟩

set_option maxHeartbeats 4000000 in
theorem closed : joinedFacts Tryz.pinned.checked.prog 3 Tryz.f3 Rows.tablePlaysSpec Rows.tablePlaysRow = true := by
  unfold joinedFacts
  simp only [Bool.and_eq_true]
  repeat' (with_reducible apply And.intro)
  all_goals as_aux_lemma => kernel_rfl

theorem over : Rows.tablePlaysRow.holds Tryz.pinned (OpenSpec.ofChange Rows.tablePlaysSpec) :=
  OpenClaim.holds_of_wide 3 Tryz.f3 rfl rfl rfl rfl rfl rfl rfl ⟨rfl, rfl, rfl, rfl, rfl⟩ rfl rfl rfl rfl rfl (by kernel_rfl) Tryz.func3 closed
    (of_decide_eq_true (by kernel_rfl)) (by unfold Func.isWrapper; first | (rw [if_pos (by decide +kernel)]; kernel_rfl) | (rw [if_neg (by decide +kernel)]; exact ⟨rfl, rfl⟩))
    (fun os started H enc _ => lifted os started H enc)

theorem proved : Rows.TablePlaysSaid :=
  over
#print axioms proved
end Go.Proofs.YtegjamjognpdkaaGreat.tablePlays
