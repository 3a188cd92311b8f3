/- Calls of a group that the caller hands in. -/
import Derived.Test.YtcccdlmngddalaaGreatGrU
import Derived.Test.YtcccdlmngddalaaGreatSym
import Derived.ProofKit
import Derived.OpenShut
import Derived.Deep.Slices
namespace Go.Proofs.YtcccdlmngddalaaGreat
open Go.RowKit Go.ChangeShapes Go.WideShapes Go.ChangeAt
set_option linter.unusedVariables false
set_option linter.unusedSimpArgs false
set_option maxRecDepth 100000
/-- a call of a group's -/
structure GA where
  kind : Int
  wait : Int
  older : Int
  rk : Int
  g : Ad
  src : List Ad
  all : Bool
def GA.c (x : GA) (v : Value) : List Value := .int .i64 x.kind :: .int .i64 x.wait :: .int .i64 x.older :: (recC x.rk x.g v ++ [.bool x.all])
theorem GA.c_len (x : GA) (v : Value) : (x.c v).length = 23 := by
  unfold GA.c
  simp [recC_len]
structure ActsAt (w : World) (v : Value) (xs : List GA) (sv : Nat → Value) : Prop where
  form : ∃ ad cap, v = .slice ad xs.length cap ∧ xs.length ≤ cap ∧ cap ≤ maxLen ∧ (0 < xs.length → ∃ g o, ad = some ⟨g, o, none⟩ ∧ ∀ i x, xs[i]? = some x → w.rangeAt g (o + i * 23) (x.c (sv i)))
  rd : ∀ i x, xs[i]? = some x → RdA w (sv i) x.src
theorem ActsAt.keep0 {w w' : World} {v : Value} {xs : List GA} {sv : Nat → Value} (h : ActsAt w v xs sv) (hm : Mod (fun _ => False) w w') : ActsAt w' v xs sv := by
  obtain ⟨⟨ad, cap, e, h1, h2, h3⟩, h4⟩ := h
  refine ⟨⟨ad, cap, e, h1, h2, fun h0 => ?_⟩, fun i x hx => (h4 i x hx).keep0 hm⟩
  obtain ⟨g, o, e2, h5⟩ := h3 h0
  exact ⟨g, o, e2, fun i x hx => keepRange hm (h5 i x hx)⟩
theorem plain_at {a : Addr} {w : World} {u : Value} (h : w.cell? a = some u) : ∃ g o, a = ⟨g, o, none⟩ := by
  obtain ⟨g, o, sp⟩ := a
  cases sp with
  | none => exact ⟨g, o, rfl⟩
  | some x =>
    unfold World.cell? at h
    simp at h
    split at h <;> cases h
theorem take_1 {l : List Value} {j : Nat} {v : Value} (h : (l.drop j).take 1 = [v]) : l[j]? = some v := by
  have := congrArg (fun l => l[0]?) h
  simpa [List.getElem?_take, List.getElem?_drop] using this
/-- what is so at each index is so of a function -/
theorem each_fun {α : Type} [Inhabited α] {n : Nat} {p : Nat → α → Prop} (h : ∀ i, i < n → ∃ x, p i x) : ∃ f : Nat → α, ∀ i, i < n → p i (f i) :=
  ⟨fun i => if h' : i < n then Classical.choose (h i h') else default, fun i hi => by
    dsimp only
    rw [dif_pos hi]
    exact Classical.choose_spec (h i hi)⟩
theorem cellsA_all {w : World} {g : Nat} : ∀ (l : List Ad) (o : Nat), (∀ j a, l[j]? = some a → w.rangeAt g (o + j * 17) a.c) → ∀ i u, (cellsA l)[i]? = some u → w.cell? ⟨g, o + i, none⟩ = some u
  | [], _, _, i, u, h => by simp [cellsA] at h
  | a :: l, o, hr, i, u, h => by
    rw [cellsA_cons, List.getElem?_append] at h
    split at h
    · have := hr 0 a rfl i u h
      rwa [Nat.zero_mul, Nat.add_zero] at this
    · rename_i hi
      have hl := a.c_len
      have := cellsA_all l (o + 17) (fun j q hj => by
        have := hr (j + 1) q (by simpa using hj)
        rwa [show o + 17 + j * 17 = o + (j + 1) * 17 by omega]) (i - a.c.length) u h
      rwa [hl, show o + 17 + (i - 17) = o + i by omega] at this
section
variable {H : Type} {enc : TypeId × Value → H} {w : World} {fuel : Nat} {x : DataW H × List MemPlace}
theorem addr_open {cs : List Value} (h : DataW.trod enc Tryz.prog w 0 (fun _ => true) true fuel 36 cs = some x) : ∃ a : Ad, cs = a.c := by
  obtain ⟨xs, k, _, _, hl, hxl, hg⟩ := DataW.trod_struct Tryz.underlying36 h
  rw [show Tryz.prog.cellsOf 36 = 17 from by kernel_rfl] at hl
  match xs, hxl with
  | [y0, y1], _ =>
    have g0 : DataW.trod enc Tryz.prog w 0 (fun _ => true) true k 4 (List.take (Tryz.prog.cellsOf 4) (List.drop 0 cs)) = [y0, y1][0]? := hg 0 _ rfl
    have g1 : DataW.trod enc Tryz.prog w 0 (fun _ => true) true k 34 (List.take (Tryz.prog.cellsOf 34) (List.drop 1 cs)) = [y0, y1][1]? := hg 1 _ rfl
    rw [show Tryz.prog.cellsOf 4 = 1 from by kernel_rfl] at g0
    rw [show Tryz.prog.cellsOf 34 = 16 from by kernel_rfl] at g1
    obtain ⟨b0, hb0, _⟩ := DataW.trod_bool Tryz.underlying4 (x := y0) g0
    obtain ⟨zs, m, _, _, _, hzl, hz⟩ := DataW.trod_array Tryz.underlying34 (x := y1) g1
    obtain ⟨f, hf⟩ := each_fun (n := 16) (p := fun i z => cs[1 + i]? = some (.int .u8 z) ∧ 0 ≤ z ∧ z < 256) fun i hi => by
      have h1 := hz i hi
      rw [show Tryz.prog.cellsOf 5 = 1 from by kernel_rfl] at h1
      have : zs[i]? = some (zs[i]'(by omega)) := by simp [show i < zs.length by omega]
      rw [this] at h1
      obtain ⟨z, hz2, _, hwf⟩ := DataW.trod_int Tryz.underlying5 h1
      have h3 := take_1 hz2
      rw [Nat.mul_one, List.getElem?_take, if_pos hi, List.getElem?_drop] at h3
      exact ⟨z, h3, by simp [Lit.wf, IntKind.min, IntKind.max, IntKind.signed, IntKind.bits] at hwf; omega⟩
    refine ⟨⟨b0, (List.range 16).map f, by simp, fun q hq => ?_⟩, ?_⟩
    · obtain ⟨i, hi, rfl⟩ := List.mem_map.1 hq
      exact (hf i (List.mem_range.1 hi)).2
    · unfold Ad.c
      apply List.ext_getElem?
      intro i
      have h0 := take_1 (j := 0) hb0
      rcases Nat.lt_or_ge i 17 with hi | hi
      · cases i with
        | zero => rw [h0]; rfl
        | succ i =>
          have := (hf i (by omega)).1
          rw [Nat.add_comm] at this
          rw [this]
          simp [adrC, show i < 16 by omega]
      · rw [List.getElem?_eq_none (by omega), List.getElem?_eq_none (by simp [adrC]; omega)]
theorem open_adrs {v : Value} (h : DataW.trod enc Tryz.prog w 0 (fun _ => true) true fuel 24 [v] = some x) : ∃ l : List Ad, RdA w v l := by
  rcases Go.Deep.open_slice Tryz.underlying24 h with ⟨hcs, hx⟩ | ⟨a, len, cap, m, n, D, Pl, hcs, _, hl, hm, hmm, hx, hall⟩
  · obtain rfl : v = .slice none 0 0 := by simpa using hcs
    exact ⟨[], none, 0, rfl, Nat.le_refl _, by unfold maxLen; omega, fun h => absurd h (by simp)⟩
  · obtain rfl : v = .slice (some a) len cap := by simpa using hcs
    have hmc : m = cap := by rw [hmm]; simp
    haveI : Inhabited Ad := ⟨⟨false, List.replicate 16 0, by rfl, fun x hx => by rw [List.eq_of_mem_replicate hx]; omega⟩⟩
    obtain ⟨f, hf⟩ := each_fun (n := len) (p := fun i (z : Ad) => ∀ j u, z.c[j]? = some u → w.cell? (a.add (i * 17 + j)) = some u) fun i hi => by
      obtain ⟨cs', h1, h2⟩ := hall i (by omega)
      rw [show Tryz.prog.cellsOf 36 = 17 from by kernel_rfl] at h1
      obtain ⟨_, hlen, hcell⟩ := World.cells?_some h1
      obtain ⟨r, rfl⟩ := addr_open h2
      refine ⟨r, fun j y hy => ?_⟩
      have hj : j < r.c.length := (List.getElem?_eq_some_iff.1 hy).1
      have c0 := hcell j (by omega)
      rw [Go.Deep.add_add] at c0
      rw [c0]
      exact hy
    have hlz : ((List.range len).map f).length = len := by simp
    refine ⟨(List.range len).map f, some a, cap, by rw [hlz], by rw [hlz]; exact hl, hm, fun h0 => ?_⟩
    rw [hlz] at h0
    have hc0 := hf 0 h0 0 _ (show (f 0).c[0]? = some (.bool (f 0).v) from rfl)
    obtain ⟨g, o, e⟩ := plain_at hc0
    have ha : a = ⟨g, o, none⟩ := by
      obtain ⟨g', o', sp⟩ := a
      cases sp with
      | none => unfold Addr.add at e; simp at e; rw [e.1, e.2]
      | some y => unfold Addr.add at e; simp at e
    subst ha
    refine ⟨g, o, rfl, cellsA_all _ o fun j r hj i u hu => ?_⟩
    have hjl : j < len := by
      have := (List.getElem?_eq_some_iff.1 hj).1
      rwa [hlz] at this
    obtain rfl : f j = r := by simpa [hjl] using hj
    have := hf j hjl i u hu
    rw [addr_add] at this
    rw [Nat.add_assoc]
    exact this
theorem take1_of {cs : List Value} {j : Nat} (h : j < cs.length) : (cs.drop j).take 1 = [cs[j]] := by
  rw [List.drop_eq_getElem_cons h]
  rfl
theorem rec_open {cs : List Value} (h : DataW.trod enc Tryz.prog w 0 (fun _ => true) true fuel 38 cs = some x) : ∃ (k : Int) (g : Ad) (v : Value) (l : List Ad), cs = recC k g v ∧ RdA w v l := by
  obtain ⟨xs, k, _, _, hl, hxl, hg⟩ := DataW.trod_struct Tryz.underlying38 h
  rw [show Tryz.prog.cellsOf 38 = 19 from by kernel_rfl] at hl
  match xs, hxl with
  | [y0, y1, y2], _ =>
    have g0 : DataW.trod enc Tryz.prog w 0 (fun _ => true) true k 3 (List.take (Tryz.prog.cellsOf 3) (List.drop 0 cs)) = [y0, y1, y2][0]? := hg 0 _ rfl
    have g1 : DataW.trod enc Tryz.prog w 0 (fun _ => true) true k 36 (List.take (Tryz.prog.cellsOf 36) (List.drop 1 cs)) = [y0, y1, y2][1]? := hg 1 _ rfl
    have g2 : DataW.trod enc Tryz.prog w 0 (fun _ => true) true k 24 (List.take (Tryz.prog.cellsOf 24) (List.drop 18 cs)) = [y0, y1, y2][2]? := hg 2 _ rfl
    rw [show Tryz.prog.cellsOf 3 = 1 from by kernel_rfl] at g0
    rw [show Tryz.prog.cellsOf 36 = 17 from by kernel_rfl] at g1
    rw [show Tryz.prog.cellsOf 24 = 1 from by kernel_rfl] at g2
    obtain ⟨a, ha, _⟩ := DataW.trod_int Tryz.underlying3 (x := y0) g0
    obtain ⟨b, hb⟩ := addr_open (x := y1) g1
    rw [take1_of (show 18 < cs.length by omega)] at g2
    obtain ⟨l, hrd⟩ := open_adrs (x := y2) g2
    refine ⟨a, b, cs[18], l, ?_, hrd⟩
    have h1 : cs = cs.take 1 ++ cs.drop 1 := (List.take_append_drop 1 cs).symm
    have h2 : cs.drop 1 = (cs.drop 1).take 17 ++ (cs.drop 1).drop 17 := (List.take_append_drop 17 _).symm
    rw [List.drop_drop] at h2
    have h3 : cs.drop 18 = [cs[18]] := by rw [← take1_of (show 18 < cs.length by omega), List.take_of_length_le (by rw [List.length_drop]; omega)]
    have ha' : cs.take 1 = [.int .i64 a] := by simpa using ha
    conv => lhs; rw [h1, h2, ha', hb]
    rw [show 1 + 17 = 18 from rfl, h3]
    rfl
theorem act_open {cs : List Value} (h : DataW.trod enc Tryz.prog w 0 (fun _ => true) true fuel 46 cs = some x) : ∃ (q : GA) (v : Value), cs = q.c v ∧ RdA w v q.src := by
  obtain ⟨xs, k, _, _, hl, hxl, hg⟩ := DataW.trod_struct Tryz.underlying46 h
  rw [show Tryz.prog.cellsOf 46 = 23 from by kernel_rfl] at hl
  match xs, hxl with
  | [y0, y1, y2, y3, y4], _ =>
    have g0 : DataW.trod enc Tryz.prog w 0 (fun _ => true) true k 3 (List.take (Tryz.prog.cellsOf 3) (List.drop 0 cs)) = [y0, y1, y2, y3, y4][0]? := hg 0 _ rfl
    have g1 : DataW.trod enc Tryz.prog w 0 (fun _ => true) true k 3 (List.take (Tryz.prog.cellsOf 3) (List.drop 1 cs)) = [y0, y1, y2, y3, y4][1]? := hg 1 _ rfl
    have g2 : DataW.trod enc Tryz.prog w 0 (fun _ => true) true k 3 (List.take (Tryz.prog.cellsOf 3) (List.drop 2 cs)) = [y0, y1, y2, y3, y4][2]? := hg 2 _ rfl
    have g3 : DataW.trod enc Tryz.prog w 0 (fun _ => true) true k 38 (List.take (Tryz.prog.cellsOf 38) (List.drop 3 cs)) = [y0, y1, y2, y3, y4][3]? := hg 3 _ rfl
    have g4 : DataW.trod enc Tryz.prog w 0 (fun _ => true) true k 4 (List.take (Tryz.prog.cellsOf 4) (List.drop 22 cs)) = [y0, y1, y2, y3, y4][4]? := hg 4 _ rfl
    rw [show Tryz.prog.cellsOf 3 = 1 from by kernel_rfl] at g0 g1 g2
    rw [show Tryz.prog.cellsOf 38 = 19 from by kernel_rfl] at g3
    rw [show Tryz.prog.cellsOf 4 = 1 from by kernel_rfl] at g4
    obtain ⟨a0, h0, _⟩ := DataW.trod_int Tryz.underlying3 (x := y0) g0
    obtain ⟨a1, h1, _⟩ := DataW.trod_int Tryz.underlying3 (x := y1) g1
    obtain ⟨a2, h2, _⟩ := DataW.trod_int Tryz.underlying3 (x := y2) g2
    obtain ⟨rk, g, v, l, h3, hrd⟩ := rec_open (x := y3) g3
    obtain ⟨b4, h4, _⟩ := DataW.trod_bool Tryz.underlying4 (x := y4) g4
    refine ⟨⟨a0, a1, a2, rk, g, l, b4⟩, v, ?_, hrd⟩
    have e0 : cs = cs.take 1 ++ cs.drop 1 := (List.take_append_drop 1 cs).symm
    have e1 : cs.drop 1 = (cs.drop 1).take 1 ++ cs.drop 2 := by rw [show cs.drop 2 = (cs.drop 1).drop 1 by rw [List.drop_drop], List.take_append_drop]
    have e2 : cs.drop 2 = (cs.drop 2).take 1 ++ cs.drop 3 := by rw [show cs.drop 3 = (cs.drop 2).drop 1 by rw [List.drop_drop], List.take_append_drop]
    have e3 : cs.drop 3 = (cs.drop 3).take 19 ++ cs.drop 22 := by rw [show cs.drop 22 = (cs.drop 3).drop 19 by rw [List.drop_drop], List.take_append_drop]
    have e4 : cs.drop 22 = (cs.drop 22).take 1 := (List.take_of_length_le (by rw [List.length_drop]; omega)).symm
    have h0' : cs.take 1 = [.int .i64 a0] := by simpa using h0
    conv => lhs; rw [e0, e1, e2, e3, e4, h0', h1, h2, h3, h4]
    rfl
theorem open_acts {v : Value} (h : DataW.trod enc Tryz.prog w 0 (fun _ => true) true fuel 43 [v] = some x) : ∃ xs sv, ActsAt w v xs sv := by
  rcases Go.Deep.open_slice Tryz.underlying43 h with ⟨hcs, hx⟩ | ⟨a, len, cap, m, n, D, Pl, hcs, _, hl, hm, hmm, hx, hall⟩
  · obtain rfl : v = .slice none 0 0 := by simpa using hcs
    exact ⟨[], fun _ => .slice none 0 0, ⟨none, 0, rfl, Nat.le_refl _, by unfold maxLen; omega, fun h => absurd h (by simp)⟩, fun i x hx => (by simp at hx)⟩
  · obtain rfl : v = .slice (some a) len cap := by simpa using hcs
    have hmc : m = cap := by rw [hmm]; simp
    haveI : Inhabited (GA × Value) := ⟨(⟨0, 0, 0, 0, ⟨false, List.replicate 16 0, by rfl, fun x hx => by rw [List.eq_of_mem_replicate hx]; omega⟩, [], false⟩, undef)⟩
    obtain ⟨f, hf⟩ := each_fun (n := len) (p := fun i (z : GA × Value) => (∀ j u, (z.1.c z.2)[j]? = some u → w.cell? (a.add (i * 23 + j)) = some u) ∧ RdA w z.2 z.1.src) fun i hi => by
      obtain ⟨cs', h1, h2⟩ := hall i (by omega)
      rw [show Tryz.prog.cellsOf 46 = 23 from by kernel_rfl] at h1
      obtain ⟨_, hlen, hcell⟩ := World.cells?_some h1
      obtain ⟨r, u, rfl, hrd⟩ := act_open h2
      refine ⟨(r, u), fun j y hy => ?_, hrd⟩
      have hj : j < (r.c u).length := (List.getElem?_eq_some_iff.1 hy).1
      have c0 := hcell j (by omega)
      rw [Go.Deep.add_add] at c0
      rw [c0]
      exact hy
    have hlz : ((List.range len).map fun i => (f i).1).length = len := by simp
    have hget : ∀ j r, ((List.range len).map fun i => (f i).1)[j]? = some r → j < len ∧ r = (f j).1 := fun j r hj => by
      have hjl := (List.getElem?_eq_some_iff.1 hj).1
      rw [hlz] at hjl
      simp [hjl] at hj
      exact ⟨hjl, hj.symm⟩
    refine ⟨(List.range len).map fun i => (f i).1, fun i => (f i).2, ⟨some a, cap, by rw [hlz], by rw [hlz]; exact hl, hm, fun h0 => ?_⟩, fun j r hj => by
      obtain ⟨h1, rfl⟩ := hget j r hj
      exact (hf j h1).2⟩
    rw [hlz] at h0
    have hc0 := (hf 0 h0).1 0 _ (show ((f 0).1.c (f 0).2)[0]? = some (.int .i64 (f 0).1.kind) from rfl)
    obtain ⟨g, o, e⟩ := plain_at hc0
    have ha : a = ⟨g, o, none⟩ := by
      obtain ⟨g', o', sp⟩ := a
      cases sp with
      | none => unfold Addr.add at e; simp at e; rw [e.1, e.2]
      | some y => unfold Addr.add at e; simp at e
    subst ha
    refine ⟨g, o, rfl, fun j r hj i u hu => ?_⟩
    obtain ⟨h1, rfl⟩ := hget j r hj
    have := (hf j h1).1 i u hu
    rw [addr_add] at this
    rw [Nat.add_assoc]
    exact this
end
theorem open_actsV {H : Type} {enc : TypeId × Value → H} {w : World} {base : Nat} {v : Value} {d : DataW H} {p : List MemPlace} (hk : Value.okWide Tryz.prog w .any base 43 v) (h : DataW.Trod enc Tryz.prog w 0 (fun _ => true) true 43 v d p) :
    ∃ xs sv, ActsAt w v xs sv := by
  obtain ⟨a0, len, cap, rfl⟩ := okWide_slice Tryz.underlying43 hk
  obtain ⟨fuel, hf⟩ := h
  exact open_acts (by simpa [Value.cells] using hf)
/-- a tune that the caller hands in -/
theorem open_tune {H : Type} {enc : TypeId × Value → H} {w : World} {base : Nat} {v : Value} {d : DataW H} {p : List MemPlace} (hk : Value.okWide Tryz.prog w .any base 32 v) (h : DataW.Trod enc Tryz.prog w 0 (fun _ => true) true 32 v d p) :
    ∃ t : Tn, v = .agg t.c.toArray := by
  obtain ⟨cs, rfl, hl0, ho0⟩ := R.ok_agg Tryz.underlying32 rfl hk
  obtain ⟨fuel, hf⟩ := h
  have h' : DataW.trod enc Tryz.prog w 0 (fun _ => true) true fuel 32 cs = some (d, p) := hf
  obtain ⟨xs, k, _, _, hl, hxl, hg⟩ := DataW.trod_struct Tryz.underlying32 h'
  rw [show Tryz.prog.cellsOf 32 = 5 from by kernel_rfl] at hl
  match xs, hxl with
  | [y0, y1, y2, y3, y4], _ =>
    have g0 : DataW.trod enc Tryz.prog w 0 (fun _ => true) true k 3 (List.take (Tryz.prog.cellsOf 3) (List.drop 0 cs)) = [y0, y1, y2, y3, y4][0]? := hg 0 _ rfl
    have g1 : DataW.trod enc Tryz.prog w 0 (fun _ => true) true k 3 (List.take (Tryz.prog.cellsOf 3) (List.drop 1 cs)) = [y0, y1, y2, y3, y4][1]? := hg 1 _ rfl
    have g2 : DataW.trod enc Tryz.prog w 0 (fun _ => true) true k 3 (List.take (Tryz.prog.cellsOf 3) (List.drop 2 cs)) = [y0, y1, y2, y3, y4][2]? := hg 2 _ rfl
    have g3 : DataW.trod enc Tryz.prog w 0 (fun _ => true) true k 3 (List.take (Tryz.prog.cellsOf 3) (List.drop 3 cs)) = [y0, y1, y2, y3, y4][3]? := hg 3 _ rfl
    have g4 : DataW.trod enc Tryz.prog w 0 (fun _ => true) true k 3 (List.take (Tryz.prog.cellsOf 3) (List.drop 4 cs)) = [y0, y1, y2, y3, y4][4]? := hg 4 _ rfl
    rw [show Tryz.prog.cellsOf 3 = 1 from by kernel_rfl] at g0 g1 g2 g3 g4
    obtain ⟨a0, h0, _⟩ := DataW.trod_int Tryz.underlying3 (x := y0) g0
    obtain ⟨a1, h1, _⟩ := DataW.trod_int Tryz.underlying3 (x := y1) g1
    obtain ⟨a2, h2, _⟩ := DataW.trod_int Tryz.underlying3 (x := y2) g2
    obtain ⟨a3, h3, _⟩ := DataW.trod_int Tryz.underlying3 (x := y3) g3
    obtain ⟨a4, h4, _⟩ := DataW.trod_int Tryz.underlying3 (x := y4) g4
    refine ⟨⟨a0, a1, a2, a3, a4⟩, ?_⟩
    have e : cs = [.int .i64 a0, .int .i64 a1, .int .i64 a2, .int .i64 a3, .int .i64 a4] := by
      have j0 := take_1 h0
      have j1 := take_1 h1
      have j2 := take_1 h2
      have j3 := take_1 h3
      have j4 := take_1 h4
      apply List.ext_getElem?
      intro i
      match i with
      | 0 => rw [j0]; rfl
      | 1 => rw [j1]; rfl
      | 2 => rw [j2]; rfl
      | 3 => rw [j3]; rfl
      | 4 => rw [j4]; rfl
      | i + 5 => rw [List.getElem?_eq_none (by omega), List.getElem?_eq_none (by simp)]
    rw [e]
    rfl
end Go.Proofs.YtcccdlmngddalaaGreat
