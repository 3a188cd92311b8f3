/- LinkEnds: calls that the caller hands in. -/
import Derived.Test.YtidkapanpieflaaLinkMem
import Derived.Test.YtidkapanpieflaaLives
namespace Go.Proofs.Ytidkapanpieflaa
open Go.RowKit Go.ChangeShapes Go.WideShapes Go.ChangeAt
set_option linter.unusedVariables false
set_option linter.unusedSimpArgs false
set_option maxRecDepth 100000
structure LinkActV where
  kind : Int
  node : Int
  m : MsgV
def LinkActV.cells (a : LinkActV) : Array Value := #[.int .i64 a.kind, .int .i64 a.node, .int .i64 a.m.node, .bool a.m.up, .int .u32 a.m.epoch, .int .i64 a.m.kind, .int .u32 a.m.ack, .int .u32 a.m.seq, .string a.m.body]
/-- the message of a call, its body cut -/
def LinkActV.cut (a : LinkActV) : LinkActV := { a with m := { a.m with body := cutB a.m.body 8 } }
theorem LinkAct_any (a : LinkActV) (w : World) : Calls Try.prog 38 #[.agg a.cells] w fun e w' => e = .returned (.agg a.cut.cells) ∧ Mod (fun _ => False) w w' := by
  obtain ⟨k, n, m0, m1, m2, m3, m4, m5, mb⟩ := a
  unfold LinkActV.cut LinkActV.cells
  go_enter Try.func38, Try.ntmps38
  go_wp2_with fail
  refine (Cut_any mb 8 (by decide) (by decide) _).mono ?_; rintro e w' ⟨rfl, rfl⟩
  go_wp2
  go_returns
  exact ⟨rfl, ((Mod.refl _ _).alloc _).alloc _⟩
def LinkRow (w : World) (v : Value) (n : Nat) (l : Nat → LinkActV) : Prop :=
  ∃ ad cap, v = .slice ad n cap ∧ n ≤ cap ∧ cap ≤ maxLen ∧ (0 < n → ∃ g o, ad = some ⟨g, o, none⟩ ∧ g < w.heap.size ∧ ∀ i, i < n → (l i).m.Ok ∧ ∀ j u, (l i).cells[j]? = some u → w.cell? ⟨g, o + i * 9 + j, none⟩ = some u)
theorem link_row {H : Type} {enc : TypeId × Value → H} {W : World} {v : Value} {d : DataW H} {ps : List MemPlace} {base : Nat} (hv : Value.okWide Try.prog W .any base 59 v) (h : DataW.Trod enc Try.prog W 0 (fun _ => true) true 59 v d ps) :
    ∃ (n : Nat) (l : Nat → LinkActV), LinkRow W v n l := by
  obtain ⟨a0, len, cap, rfl⟩ := okWide_slice Try.underlying59 hv
  obtain ⟨fuel, hf⟩ := h
  have dm : MsgV := ⟨0, false, 0, 0, 0, 0, ⟨#[]⟩⟩
  rcases Go.Deep.open_slice Try.underlying59 hf with ⟨hcs, hx⟩ | ⟨a, len', cap', m, n, D, Pl, hcs, _, hl, hm, hmm, hx, hall⟩
  · simp [Value.cells] at hcs
    obtain ⟨rfl, rfl, rfl⟩ := hcs
    exact ⟨0, fun _ => ⟨0, 0, dm⟩, none, 0, rfl, Nat.le_refl _, by unfold maxLen; omega, fun h => absurd h (by omega)⟩
  · simp [Value.cells] at hcs
    obtain ⟨rfl, rfl, rfl⟩ := hcs
    have hmc : m = cap := by rw [hmm]; simp
    have each : ∀ i, i < len → ∃ z : LinkActV, z.m.Ok ∧ ∀ j u, z.cells[j]? = some u → W.cell? (a.add (i * 9 + j)) = some u := by
      intro i hi
      obtain ⟨cs', h1, h2⟩ := hall i (by omega)
      rw [show Try.prog.cellsOf 67 = 9 from by kernel_rfl] at h1
      obtain ⟨_, hlen, hcell⟩ := World.cells?_some h1
      obtain ⟨xs, k, hk, hxy, _, hxl, hg⟩ := DataW.trod_struct Try.underlying67 h2
      match xs, hxl, cs', hlen with
      | [y0, y1, y2], _, [v0, v1, v2, v3, v4, v5, v6, v7, v8], _ =>
        have g0 : DataW.trod enc Try.prog W 0 (fun _ => true) true k 3 (List.take (Try.prog.cellsOf 3) (List.drop 0 [v0, v1, v2, v3, v4, v5, v6, v7, v8])) = [y0, y1, y2][0]? := hg 0 _ rfl
        have g1 : DataW.trod enc Try.prog W 0 (fun _ => true) true k 3 (List.take (Try.prog.cellsOf 3) (List.drop 1 [v0, v1, v2, v3, v4, v5, v6, v7, v8])) = [y0, y1, y2][1]? := hg 1 _ rfl
        have g2 : DataW.trod enc Try.prog W 0 (fun _ => true) true k 65 (List.take (Try.prog.cellsOf 65) (List.drop 2 [v0, v1, v2, v3, v4, v5, v6, v7, v8])) = [y0, y1, y2][2]? := hg 2 _ rfl
        rw [show Try.prog.cellsOf 3 = 1 from by kernel_rfl] at g0 g1
        rw [show Try.prog.cellsOf 65 = 7 from by kernel_rfl] at g2
        obtain ⟨z0, e0, _, b0⟩ := DataW.trod_int Try.underlying3 (x := y0) g0
        obtain ⟨z1, e1, _, b1⟩ := DataW.trod_int Try.underlying3 (x := y1) g1
        obtain ⟨ys, k2, _, _, _, hyl, hq⟩ := DataW.trod_struct Try.underlying65 (x := y2) g2
        match ys, hyl with
        | [t0, t1, t2, t3, t4, t5, t6], _ =>
          have f0 : DataW.trod enc Try.prog W 0 (fun _ => true) true k2 3 (List.take (Try.prog.cellsOf 3) (List.drop 0 (List.take 7 (List.drop 2 [v0, v1, v2, v3, v4, v5, v6, v7, v8])))) = [t0, t1, t2, t3, t4, t5, t6][0]? := hq 0 _ rfl
          rw [show Try.prog.cellsOf 3 = 1 from by kernel_rfl] at f0
          obtain ⟨q0, r0, _, w0⟩ := DataW.trod_int Try.underlying3 (x := t0) f0
          have f1 : DataW.trod enc Try.prog W 0 (fun _ => true) true k2 4 (List.take (Try.prog.cellsOf 4) (List.drop 1 (List.take 7 (List.drop 2 [v0, v1, v2, v3, v4, v5, v6, v7, v8])))) = [t0, t1, t2, t3, t4, t5, t6][1]? := hq 1 _ rfl
          rw [show Try.prog.cellsOf 4 = 1 from by kernel_rfl] at f1
          obtain ⟨q1, r1, _⟩ := DataW.trod_bool Try.underlying4 (x := t1) f1
          have f2 : DataW.trod enc Try.prog W 0 (fun _ => true) true k2 24 (List.take (Try.prog.cellsOf 24) (List.drop 2 (List.take 7 (List.drop 2 [v0, v1, v2, v3, v4, v5, v6, v7, v8])))) = [t0, t1, t2, t3, t4, t5, t6][2]? := hq 2 _ rfl
          rw [show Try.prog.cellsOf 24 = 1 from by kernel_rfl] at f2
          obtain ⟨q2, r2, _, w2⟩ := DataW.trod_int Try.underlying24 (x := t2) f2
          have f3 : DataW.trod enc Try.prog W 0 (fun _ => true) true k2 3 (List.take (Try.prog.cellsOf 3) (List.drop 3 (List.take 7 (List.drop 2 [v0, v1, v2, v3, v4, v5, v6, v7, v8])))) = [t0, t1, t2, t3, t4, t5, t6][3]? := hq 3 _ rfl
          rw [show Try.prog.cellsOf 3 = 1 from by kernel_rfl] at f3
          obtain ⟨q3, r3, _, w3⟩ := DataW.trod_int Try.underlying3 (x := t3) f3
          have f4 : DataW.trod enc Try.prog W 0 (fun _ => true) true k2 24 (List.take (Try.prog.cellsOf 24) (List.drop 4 (List.take 7 (List.drop 2 [v0, v1, v2, v3, v4, v5, v6, v7, v8])))) = [t0, t1, t2, t3, t4, t5, t6][4]? := hq 4 _ rfl
          rw [show Try.prog.cellsOf 24 = 1 from by kernel_rfl] at f4
          obtain ⟨q4, r4, _, w4⟩ := DataW.trod_int Try.underlying24 (x := t4) f4
          have f5 : DataW.trod enc Try.prog W 0 (fun _ => true) true k2 24 (List.take (Try.prog.cellsOf 24) (List.drop 5 (List.take 7 (List.drop 2 [v0, v1, v2, v3, v4, v5, v6, v7, v8])))) = [t0, t1, t2, t3, t4, t5, t6][5]? := hq 5 _ rfl
          rw [show Try.prog.cellsOf 24 = 1 from by kernel_rfl] at f5
          obtain ⟨q5, r5, _, w5⟩ := DataW.trod_int Try.underlying24 (x := t5) f5
          have f6 : DataW.trod enc Try.prog W 0 (fun _ => true) true k2 9 (List.take (Try.prog.cellsOf 9) (List.drop 6 (List.take 7 (List.drop 2 [v0, v1, v2, v3, v4, v5, v6, v7, v8])))) = [t0, t1, t2, t3, t4, t5, t6][6]? := hq 6 _ rfl
          rw [show Try.prog.cellsOf 9 = 1 from by kernel_rfl] at f6
          obtain ⟨q6, r6, _, _⟩ := DataW.trod_string Try.underlying9 (x := t6) f6
          simp at r0 r1 r2 r3 r4 r5 r6
          subst r0 r1 r2 r3 r4 r5 r6
          simp at e0 e1
          subst e0 e1
          refine ⟨⟨z0, z1, ⟨q0, q1, q2, q3, q4, q5, q6⟩⟩, ⟨(u32_bd w4).1, (u32_bd w4).2, (u32_bd w5).1, (u32_bd w5).2, (u32_bd w2).1, (u32_bd w2).2, (i64_bd w0).1, (i64_bd w0).2, (i64_bd w3).1, (i64_bd w3).2⟩, fun j u hu => ?_⟩
          have hj : j < 9 := (Array.getElem?_eq_some_iff.1 hu).1
          have hc := hcell j hj
          rw [Go.Deep.add_add] at hc
          rw [hc, ← hu]
          simp [LinkActV.cells]
    by_cases h0 : 0 < len
    · obtain ⟨g, o, sp⟩ := a
      have hsp : sp = none := by
        obtain ⟨z, _, h1⟩ := each 0 h0
        have h1 := h1 0 _ rfl
        cases sp with
        | none => rfl
        | some x =>
          rw [Nat.zero_mul] at h1
          unfold World.cell? Addr.add at h1
          simp at h1
          split at h1 <;> cases h1
      subst hsp
      have each' : ∀ i, i < len → ∃ z : LinkActV, z.m.Ok ∧ ∀ j u, z.cells[j]? = some u → W.cell? ⟨g, o + i * 9 + j, none⟩ = some u := fun i hi => by
        obtain ⟨z, h1, h2⟩ := each i hi
        refine ⟨z, h1, fun j u hu => ?_⟩
        have := h2 j u hu
        rwa [addr_add, ← Nat.add_assoc] at this
      refine ⟨len, fun i => if h : i < len then Classical.choose (each' i h) else ⟨0, 0, dm⟩, _, cap, rfl, hl, hm, fun _ => ⟨g, o, rfl, ?_, fun i hi => ?_⟩⟩
      · obtain ⟨z, _, h1⟩ := each' 0 h0
        have h1 := h1 0 _ rfl
        rcases Nat.lt_or_ge g W.heap.size with h | h
        · exact h
        · exact absurd h1 (by simp [World.cell?, Array.getElem?_eq_none h])
      · dsimp only
        rw [dif_pos hi]
        exact Classical.choose_spec (each' i hi)
    · exact ⟨len, fun _ => ⟨0, 0, dm⟩, _, cap, rfl, hl, hm, fun h => absurd h h0⟩
end Go.Proofs.Ytidkapanpieflaa
