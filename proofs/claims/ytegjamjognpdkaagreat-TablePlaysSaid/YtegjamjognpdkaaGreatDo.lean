/- A version's index is filled once: sync.Once's Do over find's inner function: contracts. -/
import Derived.Test.YtegjamjognpdkaaGreatFill
import Derived.Test.YtegjamjognpdkaaGreatOnce
namespace Go.Proofs.YtegjamjognpdkaaGreat
open Go.RowKit
set_option linter.unusedVariables false
set_option linter.unusedSimpArgs false
theorem FillJ.end {rs : List TRow} {rv : Value} {sv : Nat → Value} {vb p mb n : Nat} {w w1 w2 : World} (h : FillJ rs rv sv 0 1 vb p mb w1 w2 n) (h1 : Mod (fun k => k = vb) w w1) (hpv : p ≠ vb) (hm : w1.heap.size ≤ mb) (hvl : vb < w1.heap.size) :
    FillJ rs rv sv 1 0 vb p mb w ((w2.drew.setCell ⟨vb, 1, none⟩ (.int .u32 1)).setCell ⟨vb, 2, none⟩ (.int .i32 0)) n := by
  have hM : Mod (fun k => k = vb) w2 ((w2.drew.setCell ⟨vb, 1, none⟩ (.int .u32 1)).setCell ⟨vb, 2, none⟩ (.int .i32 0)) := ((Mod.refl (fun k => k = vb) w2).drew.setCell (p := ⟨vb, 1, none⟩) (.inl rfl) _).setCell (p := ⟨vb, 2, none⟩) (.inl rfl) _
  exact ⟨(h.ver.drew.set 1 (.int .u32 1)).set 2 (.int .i32 0), hM.cell hpv h.box, h.map.keep hM (show ¬ mb = vb by omega), (h1.trans h.mod fun x hx => .inl hx).trans hM fun x hx => .inl hx⟩
set_option maxRecDepth 100000 in
set_option maxHeartbeats 4000000 in
theorem slow_any (rs : List TRow) (rv : Value) (sv : Nat → Value) (at' : Value) (vb p : Nat) (w : World) (f : Nat → Prop) (h : RowsOwn w f rv rs sv) (hn : rs.length ≤ 2048) (hs : rs.Pairwise fun a b => cmpT a b = -1) (hf : ∀ k, f k → k ≠ vb)
    (hv : Blk w vb 80 (verC rv 0 0 at')) (hp : w.cell? ⟨p, 0, none⟩ = some (.pointer (some ⟨vb, 0, none⟩))) (hpv : p ≠ vb) :
    Calls Tryz.prog 86 #[.pointer (some ⟨vb, 1, none⟩), .func (.func 68) #[] #[.pointer (some ⟨p, 0, none⟩)]] w fun e w' => e = .returned (.tuple #[]) ∧ ∃ mb, w.heap.size ≤ mb ∧ FillJ rs rv sv 1 0 vb p mb w w' rs.length := by
  have HV1 : Blk (w.setCell ⟨vb, 2, none⟩ (.int .i32 1)) vb 80 (verC rv 0 1 at') := hv.set 2 (.int .i32 1)
  have HM1 : Mod (fun k => k = vb) w (w.setCell ⟨vb, 2, none⟩ (.int .i32 1)) := (Mod.refl (fun k => k = vb) w).setCell (p := ⟨vb, 2, none⟩) (.inl rfl) _
  have hl := run_call_load (P := Tryz.prog) Tryz.func94 (by kernel_rfl) (by kernel_rfl) (by kernel_rfl) .u32 (by kernel_rfl) (w := w.setCell ⟨vb, 2, none⟩ (.int .i32 1)) (a := ⟨vb, 1, none⟩) (x := 0) (HV1.cell rfl)
  have hnot : ∀ (x : Bool) (w : World), (Op.unary .not (.bool x)).run Tryz.prog w = .ok (.bool (!x)) w := fun _ _ => rfl
  have HC := Lib.hid (HM1.cell hpv hp)
  have HR := Lib.hid (h.keep HM1 hf)
  have HV := Lib.hid HV1
  have HM := Lib.hid HM1
  have HLK := Lib.hid (lock_free ⟨vb, 2, none⟩ w (hv.cell rfl) (hv.free 2))
  have HVL := Lib.hid hv.lt
  have HS := Lib.hid hs
  have HF := Lib.hid hf
  have HSZ : Hid ((w.setCell ⟨vb, 2, none⟩ (.int .i32 1)).heap.size = w.heap.size) := Lib.hid (by simp)
  clear h hv hp HV1 HM1 hs hf
  go_enter_defers Tryz.func86, Tryz.ntmps86
  go_wp2_with (first | (go_at_call 95; refine HLK.out.mono ?_; rintro e w' ⟨rfl, rfl⟩) | (go_at_call 85; go_in) | (go_at_call 68; refine (fill_any rs rv sv 0 1 at' vb p _ f HR.out hn HS.out HF.out HV.out HC.out hpv).mono ?_; rintro e w2 ⟨rfl, mb, hmb, HJ⟩))
  have HJ' := Lib.hid HJ
  clear HJ
  go_wp2
  refine leaves_cons (f := 97) (args := #[.pointer (some ⟨vb, 1, none⟩), .bool true]) (by simp) (by simp [go_sem]) ?_
  refine (store_deferred ⟨vb, 1, none⟩ (.int .u32 0) .returning _ (HJ'.out.ver.cell rfl) (HJ'.out.ver.free 1)).mono ?_
  rintro e u' w'' ⟨rfl, rfl, rfl⟩
  refine leaves_cons (f := 96) (args := #[.pointer (some ⟨vb, 2, none⟩)]) (by simp [settle]) (by simp [go_sem]) ?_
  refine (unlock_deferred ⟨vb, 2, none⟩ _ _ ((HJ'.out.ver.drew.set 1 (.int .u32 1)).cell rfl) ((HJ'.out.ver.drew.set 1 (.int .u32 1)).free 2)).mono ?_
  rintro e u' w'' ⟨rfl, rfl, rfl⟩
  have HE := HJ'.out.end HM.out hpv hmb (by rw [HSZ.out]; exact HVL.out)
  simp [Leaves, settle, results, Tryz.results86]
  exact ⟨mb, by have := HSZ.out; omega, HE⟩
set_option maxRecDepth 100000 in
set_option maxHeartbeats 4000000 in
/-- Do, not yet done -/
theorem do_first (rs : List TRow) (rv : Value) (sv : Nat → Value) (at' : Value) (vb p : Nat) (w : World) (f : Nat → Prop) (h : RowsOwn w f rv rs sv) (hn : rs.length ≤ 2048) (hs : rs.Pairwise fun a b => cmpT a b = -1) (hf : ∀ k, f k → k ≠ vb)
    (hv : Blk w vb 80 (verC rv 0 0 at')) (hp : w.cell? ⟨p, 0, none⟩ = some (.pointer (some ⟨vb, 0, none⟩))) (hpv : p ≠ vb) :
    Calls Tryz.prog 67 #[.pointer (some ⟨vb, 1, none⟩), .func (.func 68) #[] #[.pointer (some ⟨p, 0, none⟩)]] w fun e w' => e = .returned (.tuple #[]) ∧ ∃ mb, w.heap.size ≤ mb ∧ FillJ rs rv sv 1 0 vb p mb w w' rs.length := by
  have hl := run_call_load (P := Tryz.prog) Tryz.func94 (by kernel_rfl) (by kernel_rfl) (by kernel_rfl) .u32 (by kernel_rfl) (w := w) (a := ⟨vb, 1, none⟩) (x := 0) (hv.cell rfl)
  have hnot : ∀ (x : Bool) (w : World), (Op.unary .not (.bool x)).run Tryz.prog w = .ok (.bool (!x)) w := fun _ _ => rfl
  have HSL := Lib.hid (slow_any rs rv sv at' vb p w f h hn hs hf hv hp hpv)
  clear h hv hp hs hf
  go_enter Tryz.func67, Tryz.ntmps67
  go_wp2_with (first | (go_at_call 86; refine HSL.out.mono ?_; rintro e w' ⟨rfl, mb, hmb, HJ⟩) | (go_at_call 85; go_in))
  go_end0
  exact ⟨rfl, mb, hmb, HJ⟩
/-- Do, done -/
theorem do_done (a : Addr) (fv : Value) (w : World) (h0 : w.cell? a = some (.int .u32 1)) :
    Calls Tryz.prog 67 #[.pointer (some a), fv] w fun e w' => e = .returned (.tuple #[]) ∧ w' = w := by
  have hl := run_call_load (P := Tryz.prog) Tryz.func94 (by kernel_rfl) (by kernel_rfl) (by kernel_rfl) .u32 (by kernel_rfl) h0
  have hnot : ∀ (x : Bool) (w : World), (Op.unary .not (.bool x)).run Tryz.prog w = .ok (.bool (!x)) w := fun _ _ => rfl
  go_enter Tryz.func67, Tryz.ntmps67
  go_wp2
  go_end0
  exact ⟨rfl, rfl⟩
end Go.Proofs.YtegjamjognpdkaaGreat
