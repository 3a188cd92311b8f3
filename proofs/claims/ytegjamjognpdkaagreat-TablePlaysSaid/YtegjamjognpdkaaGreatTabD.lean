/- Tables: of, current, ahead, New: contracts. -/
import Derived.Test.YtegjamjognpdkaaGreatTabS
import Derived.Test.YtegjamjognpdkaaGreatRowG
import Derived.Test.YtegjamjognpdkaaGreatSerial
namespace Go.Proofs.YtegjamjognpdkaaGreat
open Go.RowKit
set_option linter.unusedVariables false
set_option linter.unusedSimpArgs false
theorem do_any {rs : List TRow} {rv : Value} {sv : Nat → Value} {g : Nat → Prop} (vb p : Nat) (w : World) (h : VerIn w g vb rs rv sv) (hp : w.cell? ⟨p, 0, none⟩ = some (.pointer (some ⟨vb, 0, none⟩))) (hpv : p ≠ vb) :
    Calls Tryz.prog 67 #[.pointer (some ⟨vb, 1, none⟩), .func (.func 68) #[] #[.pointer (some ⟨p, 0, none⟩)]] w fun e w' => e = .returned (.tuple #[]) ∧ Mod (fun k => k = vb) w w' ∧
      ∃ m, (g m ∨ w.heap.size ≤ m) ∧ m ≠ vb ∧ Blk w' vb 80 (verC rv 1 0 (.map (some m))) ∧ SpM w' m rs := by
  have hvl := h.idx.lt
  rcases h.idx with h1 | ⟨m, h1, h2, h3, h4⟩
  · refine (do_first rs rv sv (.map none) vb p w _ h.rows (goodT_le h.good) (goodT_sorted h.good h.rows.ok) (fun k hk => hk.2) h1 hp hpv).mono ?_
    rintro e w' ⟨rfl, mb, hmb, HJ⟩
    exact ⟨rfl, HJ.mod, mb, .inr hmb, by omega, HJ.ver, by have := HJ.map; rwa [List.take_length] at this⟩
  · refine (do_done ⟨vb, 1, none⟩ _ w (h3.cell rfl)).mono ?_
    rintro e w' ⟨rfl, rfl⟩
    exact ⟨rfl, Mod.refl _ _, m, .inl h1, h2, h3, h4⟩
theorem spotSz0 : (Tryz.prog.info? 110).map (·.size) = some 19 := by kernel_rfl
theorem spotSz (r : TRow) (hr : r.b.length = 16) : (Tryz.prog.info? 110).map (·.size) = some (spotC r).length := by
  have e : (spotC r).length = 19 := by simp [spotC, adrC, hr]
  rw [e]
  exact spotSz0
set_option maxRecDepth 100000 in
set_option maxHeartbeats 4000000 in
theorem find_any {rs : List TRow} {rv : Value} {sv : Nat → Value} {g : Nat → Prop} (vb : Nat) (x : TRow) (w : World) (h : VerIn w g vb rs rv sv) (hx : x.b.length = 16) :
    Calls Tryz.prog 51 #[.pointer (some ⟨vb, 0, none⟩), .agg (spotC x).toArray] w fun e w' => e = .returned (.tuple #[.int .i64 (((placeR x rs).getD 0 : Nat) : Int), .bool (placeR x rs).isSome]) ∧
      VerIn w' (fun k => g k ∨ w.heap.size ≤ k) vb rs rv sv ∧ Mod (fun k => k = vb) w w' := by
  have hmf : ∀ (fn : Fn) (first cap : Array Value) (w : World), (Instr.makeFunc fn first cap).run Tryz.prog w = .ok (.func fn first cap) w := fun _ _ _ _ => rfl
  have hA := Blk.alloc (Blk.new w 67 [.pointer (some ⟨vb, 0, none⟩)]) (.cells (spotC x).toArray 110 (0, 0))
  have hB := Blk.new (w.alloc (.cells [Value.pointer (some ⟨vb, 0, none⟩)].toArray 67 (0, 0))) 110 (spotC x)
  have hm : Mod (fun _ => False) w ((w.alloc (.cells [Value.pointer (some ⟨vb, 0, none⟩)].toArray 67 (0, 0))).alloc (.cells (spotC x).toArray 110 (0, 0))) := ((Mod.refl _ _).alloc _).alloc _
  rw [show (w.alloc (.cells [Value.pointer (some ⟨vb, 0, none⟩)].toArray 67 (0, 0))).heap.size = w.heap.size + 1 by simp] at hB
  have cA := hA.cell (j := 0) rfl
  have hvl := h.idx.lt
  go_enter Tryz.func51, Tryz.ntmps51
  go_wp2_with fail
  obtain ⟨W0, hW0⟩ : ∃ W0, W0 = (w.alloc (.cells [Value.pointer (some ⟨vb, 0, none⟩)].toArray 67 (0, 0))).alloc (.cells (spotC x).toArray 110 (0, 0)) := ⟨_, rfl⟩
  obtain ⟨pb, hpb⟩ : ∃ pb, pb = w.heap.size := ⟨_, rfl⟩
  obtain ⟨pc, hpc⟩ : ∃ pc, pc = w.heap.size + 1 := ⟨_, rfl⟩
  rw [← hW0, ← hpb] at hA
  rw [← hW0, ← hpc] at hB
  rw [← hW0] at hm
  rw [← hW0, ← hpb] at cA
  try rw [← hW0]
  try rw [← hpc]
  try rw [← hpb]
  have HI := Lib.hid ((h.mono (g' := fun k => g k ∧ k < w.heap.size) fun k hk hl => ⟨hk, hl⟩).keep hm fun k _ f => f)
  have HB := Lib.hid hB
  have HM := Lib.hid hm
  have HA := Lib.hid hA
  have HPB := Lib.hid hpb
  have HPC := Lib.hid hpc
  have HVL := Lib.hid hvl
  have HX := Lib.hid hx
  have HSZ := Lib.hid (spotSz x hx)
  have HWS : Hid (w.heap.size ≤ W0.heap.size) := Lib.hid hm.size
  clear hA hB hm hW0 hpb hpc hvl h hx
  refine (do_any vb pb _ HI.out cA (by have := HPB.out; have := HVL.out; omega)).mono ?_; rintro e w1 ⟨rfl, hm1, m, hgm, hmv, hb1, hs1⟩
  clear cA
  have HB1 := Lib.hid hb1
  have HS1 := Lib.hid hs1
  have HM1 := Lib.hid hm1
  have HGM := Lib.hid hgm
  have HMV := Lib.hid hmv
  have hS : w1.cell? ⟨pb, 0, none⟩ = some (.pointer (some ⟨vb, 0, none⟩)) ∧ w1.cell? ⟨vb, 4, none⟩ = some (.map (some m)) ∧ Blk w1 pc 110 (spotC x) ∧ SpM w1 m rs :=
    ⟨hm1.cell (show ¬ pb = vb by have := HPB.out; have := HVL.out; omega) (HA.out.cell rfl), hb1.cell rfl, HB.out.keep hm1 (show ¬ pc = vb by have := HPC.out; have := HVL.out; omega), hs1⟩
  clear hb1 hs1 hm1 hgm hmv
  have HOK := Lib.hid HI.out.rows.ok
  have HF : Hid (VerIn w1 (fun k => g k ∨ w.heap.size ≤ k) vb rs rv sv) := Lib.hid ⟨(HI.out.rows.keep HM1.out fun k hk => hk.2).mono fun k hk => ⟨.inl hk.1.1, hk.2⟩, .inr ⟨m, HGM.out.imp (fun x => x.1) (fun x => Nat.le_trans HWS.out x), HMV.out, HB1.out, HS1.out⟩, .inl HI.out.own.1, HI.out.good⟩
  have HMW : Hid (Mod (fun k => k = vb) w w1) := Lib.hid ((HM.out.mono fun x hx => hx.elim).trans HM1.out fun x hx => .inl hx)
  go_wp2_with fail
  refine wp_region_plan [] [(0, 1), (1, 0), (2, 0), (3, 1), (4, 1), (5, 1), (6, 0), (7, 0), (8, 0), (9, 0), (10, 0)] (fun w' : World => w'.cell? ⟨pb, 0, none⟩ = some (.pointer (some ⟨vb, 0, none⟩)) ∧ w'.cell? ⟨vb, 4, none⟩ = some (.map (some m)) ∧ Blk w' pc 110 (spotC x) ∧ SpM w' m rs) (by kernel_rfl) (by kernel_rfl) (fun d _ _ _ _ h => by cases d <;> exact h) ?_
  repeat (first | (refine plan_skip rfl rfl ?_; simp only [List.getElem_toArray, List.getElem_cons_succ, List.getElem_cons_zero, Act.put, List.setIfInBounds_toArray, List.set_cons_zero, List.set_cons_succ]) | (refine plan_pass2 rfl rfl ?_; simp only [List.getElem_toArray, List.getElem_cons_succ, List.getElem_cons_zero, Act.put, List.setIfInBounds_toArray, List.set_cons_zero, List.set_cons_succ]) | (refine plan_pass3 rfl rfl ?_; simp only [List.getElem_toArray, List.getElem_cons_succ, List.getElem_cons_zero, Act.put, List.setIfInBounds_toArray, List.set_cons_zero, List.set_cons_succ]) | (refine plan_take (v := ?_) rfl rfl ?_ ?_; rotate_left; (focus (intro w0; go_simp; try with_reducible rfl)); simp only [List.getElem_toArray, List.getElem_cons_succ, List.getElem_cons_zero, Act.put, List.setIfInBounds_toArray, List.set_cons_zero, List.set_cons_succ]) | (refine plan_held (v := ?_) rfl rfl hS ?_ ?_; rotate_left; (focus (intro w0 hSw; (try dsimp only at hSw); go_split_ands; go_simp; try with_reducible rfl)); simp only [List.getElem_toArray, List.getElem_cons_succ, List.getElem_cons_zero, Act.put, List.setIfInBounds_toArray, List.set_cons_zero, List.set_cons_succ])  | (refine plan_skip1 rfl rfl hS ?_; simp only [List.getElem_toArray, List.getElem_cons_succ, List.getElem_cons_zero, Act.put, List.setIfInBounds_toArray, List.set_cons_zero, List.set_cons_succ]))
  (refine plan_held (v := .agg (spotC x).toArray) rfl rfl hS (fun w0 h0 => exec_load_blk _ _ rfl pc 0 rfl 110 (spotC x) (spotC x) _ w0 h0.2.2.1 (by simp) Tryz.underlying110 rfl HSZ.out) ?_; try simp only [List.getElem_toArray, List.getElem_cons_succ, List.getElem_cons_zero, Act.put, List.setIfInBounds_toArray, List.set_cons_zero, List.set_cons_succ])
  (refine plan_held (v := .tuple #[.int .i64 (((placeR x rs).getD 0 : Nat) : Int), .bool (placeR x rs).isSome]) rfl rfl hS (fun w0 h0 => exec_lookup_spot rfl rfl rfl HX.out (fun r hr => (HOK.out r hr).1) h0.2.2.2) ?_; try simp only [List.getElem_toArray, List.getElem_cons_succ, List.getElem_cons_zero, Act.put, List.setIfInBounds_toArray, List.set_cons_zero, List.set_cons_succ])
  repeat (first | (refine plan_skip rfl rfl ?_; simp only [List.getElem_toArray, List.getElem_cons_succ, List.getElem_cons_zero, Act.put, List.setIfInBounds_toArray, List.set_cons_zero, List.set_cons_succ]) | (refine plan_pass2 rfl rfl ?_; simp only [List.getElem_toArray, List.getElem_cons_succ, List.getElem_cons_zero, Act.put, List.setIfInBounds_toArray, List.set_cons_zero, List.set_cons_succ]) | (refine plan_pass3 rfl rfl ?_; simp only [List.getElem_toArray, List.getElem_cons_succ, List.getElem_cons_zero, Act.put, List.setIfInBounds_toArray, List.set_cons_zero, List.set_cons_succ]) | (refine plan_take (v := ?_) rfl rfl ?_ ?_; rotate_left; (focus (intro w0; go_simp; try with_reducible rfl)); simp only [List.getElem_toArray, List.getElem_cons_succ, List.getElem_cons_zero, Act.put, List.setIfInBounds_toArray, List.set_cons_zero, List.set_cons_succ]) | fail )
  refine plan_nil ?_
  go_wp2
  go_ret2
  exact ⟨rfl, HF.out.keep (Mod.refl (fun _ => False) _).drew (fun k _ f => f), HMW.out.drew⟩
end Go.Proofs.YtegjamjognpdkaaGreat
namespace Go.Proofs.YtegjamjognpdkaaGreat
open Go.RowKit
set_option linter.unusedVariables false
set_option linter.unusedSimpArgs false
theorem vof_any {w : World} {f : Nat → Prop} {tb mb : Nat} {now : Int} {vs : List (Int × List TRow)} {vbo : Int → Nat} {g : Int → Nat → Prop} (h : TabIn w f tb now vs mb vbo g) (v : Int) :
    Calls Tryz.prog 32 #[.pointer (some ⟨tb, 0, none⟩), .int .u32 v] w fun e w' => e = .returned (.pointer ((hasV vs v).map fun _ => ⟨vbo v, 0, none⟩)) ∧ w' = w := by
  have c0 := h.tab.cell (j := 0) rfl
  have hlk := run_lookup_mp Tryz.underlying57 Tryz.underlying29 (fun w => (by kernel_rfl : (zeroValue 67).run Tryz.prog w = .ok (.pointer none) w)) h.map v false
  rw [mget_vs] at hlk
  have hz : ((hasV vs v).map fun _ => verPtr vbo v).getD (.pointer none) = .pointer ((hasV vs v).map fun _ => ⟨vbo v, 0, none⟩) := by cases hasV vs v <;> rfl
  simp only [Bool.false_eq_true, if_false, hz] at hlk
  clear h hz
  go_enter Tryz.func32, Tryz.ntmps32
  go_wp2
  go_ret
  exact ⟨rfl, rfl⟩
def curV (now : Int) : Int := (now - 1) % 4294967296
theorem current_any {w : World} {tb mb : Nat} {now : Int} (h : Blk w tb 65 [.map (some mb), .int .u64 now]) (h0 : 0 ≤ now) (h1 : now ≤ 4294967296) :
    Calls Tryz.prog 25 #[.pointer (some ⟨tb, 0, none⟩)] w fun e w' => e = .returned (.tuple #[.int .u32 (curV now), .bool (decide (0 < now))]) ∧ w' = w := by
  have hl := run_call_load (P := Tryz.prog) Tryz.func63 (by kernel_rfl) (by kernel_rfl) (by kernel_rfl) .u64 (by kernel_rfl) (h.cell (j := 1) rfl)
  clear h
  go_enter Tryz.func25, Tryz.ntmps25
  go_wp2_with (go_at_call 45; go_in)
  go_ret2
  refine ⟨?_, rfl⟩
  have e : IntKind.u64.wrap (now - 1) % 4294967296 = curV now := by
    unfold curV
    rw [IntKind.wrap_u64]
    omega
  show Ending.returned (.tuple #[.int .u32 (IntKind.u64.wrap (now - 1) % 4294967296), .bool (decide (0 < now))]) = _
  rw [e]
def aheadB (now v : Int) : Bool := decide (0 < now) && !decide (0 < Sr.gap (curV now) v)
theorem ahead_any {w : World} {tb mb : Nat} {now : Int} (h : Blk w tb 65 [.map (some mb), .int .u64 now]) (h0 : 0 ≤ now) (h1 : now ≤ 4294967296) (v : Int) :
    Calls Tryz.prog 21 #[.pointer (some ⟨tb, 0, none⟩), .int .u32 v] w fun e w' => e = .returned (.bool (aheadB now v)) ∧ w' = w := by
  have HC := Lib.hid (current_any h h0 h1)
  have hnot : ∀ (x : Bool) (w : World), (Op.unary .not (.bool x)).run Tryz.prog w = .ok (.bool (!x)) w := fun _ _ => rfl
  go_enter Tryz.func21, Tryz.ntmps21
  by_cases hn : 0 < now
  · have hd : decide (0 < now) = true := decide_eq_true hn
    go_wp2_with (first | (go_at_call 25; refine HC.out.mono ?_; rintro e w' ⟨rfl, rfl⟩; rw [hd]) | (go_at_call 29; refine (Less_any _ _ _).mono ?_; rintro e w' ⟨rfl, rfl⟩))
    go_ret
    exact ⟨by unfold aheadB; rw [hd]; rfl, rfl⟩
  · have hd : decide (0 < now) = false := decide_eq_false hn
    go_wp2_with (go_at_call 25; refine HC.out.mono ?_; rintro e w' ⟨rfl, rfl⟩; rw [hd])
    go_ret
    exact ⟨by unfold aheadB; rw [hd]; rfl, rfl⟩
theorem New_any (w : World) :
    Calls Tryz.prog 4 #[] w fun e w' => ∃ tb, e = .returned (.pointer (some ⟨tb, 0, none⟩)) ∧ TabAt w' (fun k => w.heap.size ≤ k) tb 0 [] ∧ Mod (fun _ => False) w w' := by
  have hmk : ∀ w : World, (Instr.makeMap 57 none).run Tryz.prog w = .ok (.map (some w.heap.size)) (w.alloc (.map #[] 0)) := fun w => by
    simp [Instr.makeMap, run_underlying Tryz.underlying57, Result.andThen, newObj]
    rfl
  have hz := Tryz.zeroValue65
  go_enter Tryz.func4, Tryz.ntmps4
  go_wp2
  go_ret
  have hb := Blk.new (w.alloc (.map #[] 0)) 65 [.map (some w.heap.size), .int .u64 0]
  rw [show (w.alloc (.map #[] 0)).heap.size = w.heap.size + 1 by simp] at hb
  refine ⟨_, rfl, TabAt.new hb ((Mp.made w .u32).alloc _) (by omega) (fun k => w.heap.size ≤ k) (Nat.le_succ _) (Nat.le_refl _), ((Mod.refl _ _).alloc _).alloc _⟩
end Go.Proofs.YtegjamjognpdkaaGreat
