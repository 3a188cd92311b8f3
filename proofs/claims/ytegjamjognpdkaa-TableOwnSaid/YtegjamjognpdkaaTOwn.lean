/- TableOwn: the walk. -/
import Derived.Test.YtegjamjognpdkaaFill
import Derived.Test.YtegjamjognpdkaaOnce
import Derived.Test.YtegjamjognpdkaaCutC
import Derived.Test.YtegjamjognpdkaaMem
import Derived.WalkKit
import Derived.ProofKit
import Derived.OpenShut
import Derived.Lib.Hide
import Derived.Test.YtegjamjognpdkaaRowG
import Derived.Test.YtegjamjognpdkaaOwnB
import Derived.Test.YtegjamjognpdkaaOfC
import Derived.Test.YtegjamjognpdkaaRunA
import Derived.Test.YtegjamjognpdkaaExt
import Derived.Test.YtegjamjognpdkaaRefL
import Derived.Handy
namespace Go.Proofs.Ytegjamjognpdkaa
open Go.RowKit
set_option linter.unusedVariables false
set_option linter.unusedSimpArgs false
theorem FillJ.end {rs : List TRow} {rv : Value} {sv : Nat → Value} {vb p mb n : Nat} {w w1 w2 : World} (h : FillJ rs rv sv 0 1 vb p mb w1 w2 n) (h1 : Mod (fun k => k = vb) w w1) (hpv : p ≠ vb) (hm : w1.heap.size ≤ mb) (hvl : vb < w1.heap.size) :
    FillJ rs rv sv 1 0 vb p mb w ((w2.drew.setCell ⟨vb, 1, none⟩ (.int .u32 1)).setCell ⟨vb, 2, none⟩ (.int .i32 0)) n := by
  have hM : Mod (fun k => k = vb) w2 ((w2.drew.setCell ⟨vb, 1, none⟩ (.int .u32 1)).setCell ⟨vb, 2, none⟩ (.int .i32 0)) := ((Mod.refl (fun k => k = vb) w2).drew.setCell (p := ⟨vb, 1, none⟩) (.inl rfl) _).setCell (p := ⟨vb, 2, none⟩) (.inl rfl) _
  exact ⟨(h.ver.drew.set 1 (.int .u32 1)).set 2 (.int .i32 0), hM.cell hpv h.box, h.map.keep hM (show ¬ mb = vb by omega), (h1.trans h.mod fun x hx => .inl hx).trans hM fun x hx => .inl hx⟩
set_option maxRecDepth 100000 in
set_option maxHeartbeats 4000000 in
theorem slow_any (rs : List TRow) (rv : Value) (sv : Nat → Value) (at' : Value) (vb p : Nat) (w : World) (f : Nat → Prop) (h : RowsOwn w f rv rs sv) (hn : rs.length ≤ 2048) (hs : rs.Pairwise fun a b => cmpT a b = -1) (hf : ∀ k, f k → k ≠ vb)
    (hv : Blk w vb 70 (verC rv 0 0 at')) (hp : w.cell? ⟨p, 0, none⟩ = some (.pointer (some ⟨vb, 0, none⟩))) (hpv : p ≠ vb) :
    Calls Try.prog 63 #[.pointer (some ⟨vb, 1, none⟩), .func (.func 46) #[] #[.pointer (some ⟨p, 0, none⟩)]] w fun e w' => e = .returned (.tuple #[]) ∧ ∃ mb, w.heap.size ≤ mb ∧ FillJ rs rv sv 1 0 vb p mb w w' rs.length := by
  have HV1 : Blk (w.setCell ⟨vb, 2, none⟩ (.int .i32 1)) vb 70 (verC rv 0 1 at') := hv.set 2 (.int .i32 1)
  have HM1 : Mod (fun k => k = vb) w (w.setCell ⟨vb, 2, none⟩ (.int .i32 1)) := (Mod.refl (fun k => k = vb) w).setCell (p := ⟨vb, 2, none⟩) (.inl rfl) _
  have hl := run_call_load (P := Try.prog) Try.func74 (by kernel_rfl) (by kernel_rfl) (by kernel_rfl) .u32 (by kernel_rfl) (w := w.setCell ⟨vb, 2, none⟩ (.int .i32 1)) (a := ⟨vb, 1, none⟩) (x := 0) (HV1.cell rfl)
  have hnot : ∀ (x : Bool) (w : World), (Op.unary .not (.bool x)).run Try.prog w = .ok (.bool (!x)) w := fun _ _ => rfl
  have HC := Lib.hid (HM1.cell hpv hp)
  have HR := Lib.hid (h.keep HM1 hf)
  have HV := Lib.hid HV1
  have HM := Lib.hid HM1
  have HLK := Lib.hid (lock_free ⟨vb, 2, none⟩ w (hv.cell rfl) (hv.free 2))
  have HVL := Lib.hid hv.lt
  have HS := Lib.hid hs
  have HF := Lib.hid hf
  have HSZ : Hid ((w.setCell ⟨vb, 2, none⟩ (.int .i32 1)).heap.size = w.heap.size) := Lib.hid (by simp)
  clear h hv hp HV1 HM1 hs hf
  go_enter_defers Try.func63, Try.ntmps63
  go_wp2_with (first | (go_at_call 75; refine HLK.out.mono ?_; rintro e w' ⟨rfl, rfl⟩) | (go_at_call 62; go_in) | (go_at_call 46; refine (fill_any rs rv sv 0 1 at' vb p _ f HR.out hn HS.out HF.out HV.out HC.out hpv).mono ?_; rintro e w2 ⟨rfl, mb, hmb, HJ⟩))
  have HJ' := Lib.hid HJ
  clear HJ
  go_wp2
  refine leaves_cons (f := 77) (args := #[.pointer (some ⟨vb, 1, none⟩), .bool true]) (by simp) (by simp [go_sem]) ?_
  refine (store_deferred ⟨vb, 1, none⟩ (.int .u32 0) .returning _ (HJ'.out.ver.cell rfl) (HJ'.out.ver.free 1)).mono ?_
  rintro e u' w'' ⟨rfl, rfl, rfl⟩
  refine leaves_cons (f := 76) (args := #[.pointer (some ⟨vb, 2, none⟩)]) (by simp [settle]) (by simp [go_sem]) ?_
  refine (unlock_deferred ⟨vb, 2, none⟩ _ _ ((HJ'.out.ver.drew.set 1 (.int .u32 1)).cell rfl) ((HJ'.out.ver.drew.set 1 (.int .u32 1)).free 2)).mono ?_
  rintro e u' w'' ⟨rfl, rfl, rfl⟩
  have HE := HJ'.out.end HM.out hpv hmb (by rw [HSZ.out]; exact HVL.out)
  simp [Leaves, settle, results, Try.results63]
  exact ⟨mb, by have := HSZ.out; omega, HE⟩
set_option maxRecDepth 100000 in
set_option maxHeartbeats 4000000 in
/-- Do, not yet done -/
theorem do_first (rs : List TRow) (rv : Value) (sv : Nat → Value) (at' : Value) (vb p : Nat) (w : World) (f : Nat → Prop) (h : RowsOwn w f rv rs sv) (hn : rs.length ≤ 2048) (hs : rs.Pairwise fun a b => cmpT a b = -1) (hf : ∀ k, f k → k ≠ vb)
    (hv : Blk w vb 70 (verC rv 0 0 at')) (hp : w.cell? ⟨p, 0, none⟩ = some (.pointer (some ⟨vb, 0, none⟩))) (hpv : p ≠ vb) :
    Calls Try.prog 45 #[.pointer (some ⟨vb, 1, none⟩), .func (.func 46) #[] #[.pointer (some ⟨p, 0, none⟩)]] w fun e w' => e = .returned (.tuple #[]) ∧ ∃ mb, w.heap.size ≤ mb ∧ FillJ rs rv sv 1 0 vb p mb w w' rs.length := by
  have hl := run_call_load (P := Try.prog) Try.func74 (by kernel_rfl) (by kernel_rfl) (by kernel_rfl) .u32 (by kernel_rfl) (w := w) (a := ⟨vb, 1, none⟩) (x := 0) (hv.cell rfl)
  have hnot : ∀ (x : Bool) (w : World), (Op.unary .not (.bool x)).run Try.prog w = .ok (.bool (!x)) w := fun _ _ => rfl
  have HSL := Lib.hid (slow_any rs rv sv at' vb p w f h hn hs hf hv hp hpv)
  clear h hv hp hs hf
  go_enter Try.func45, Try.ntmps45
  go_wp2_with (first | (go_at_call 63; refine HSL.out.mono ?_; rintro e w' ⟨rfl, mb, hmb, HJ⟩) | (go_at_call 62; go_in))
  go_end0
  exact ⟨rfl, mb, hmb, HJ⟩
/-- Do, done -/
theorem do_done (a : Addr) (fv : Value) (w : World) (h0 : w.cell? a = some (.int .u32 1)) :
    Calls Try.prog 45 #[.pointer (some a), fv] w fun e w' => e = .returned (.tuple #[]) ∧ w' = w := by
  have hl := run_call_load (P := Try.prog) Try.func74 (by kernel_rfl) (by kernel_rfl) (by kernel_rfl) .u32 (by kernel_rfl) h0
  have hnot : ∀ (x : Bool) (w : World), (Op.unary .not (.bool x)).run Try.prog w = .ok (.bool (!x)) w := fun _ _ => rfl
  go_enter Try.func45, Try.ntmps45
  go_wp2
  go_end0
  exact ⟨rfl, rfl⟩
end Go.Proofs.Ytegjamjognpdkaa
namespace Go.Proofs.Ytegjamjognpdkaa
open Go.RowKit
set_option linter.unusedVariables false
set_option linter.unusedSimpArgs false
theorem goodT_le {rs : List TRow} (h : goodT rs = true) : rs.length ≤ 2048 := by
  unfold goodT at h
  rw [Bool.and_eq_true] at h
  exact of_decide_eq_true h.2
theorem goodT_one {rs : List TRow} (h : goodT rs = true) {r : TRow} (hr : r ∈ rs) : oneT r = true := by
  unfold goodT at h
  rw [Bool.and_eq_true] at h
  obtain ⟨j, hj, rfl⟩ := List.getElem_of_mem hr
  have := h.1
  unfold allTo at this
  rw [List.all_eq_true] at this
  have := this j (List.mem_range.2 hj)
  unfold stepT at this
  rw [Bool.and_eq_true, getD_get rs j hj] at this
  exact this.1
theorem oneT_next {r : TRow} (h : oneT r = true) : 1 ≤ r.next.length ∧ r.next.length ≤ 255 := by
  unfold oneT at h
  simp only [Bool.and_eq_true] at h
  exact of_decide_eq_true h.2.2
theorem goodT_next {rs : List TRow} (h : goodT rs = true) {r : TRow} (hr : r ∈ rs) : r.next.length ≤ 255 := (oneT_next (goodT_one h hr)).2
/-- a version's index: not yet filled, or filled -/
def IdxAt (w : World) (g : Nat → Prop) (vb : Nat) (rv : Value) (rs : List TRow) : Prop :=
  Blk w vb 70 (verC rv 0 0 (.map none)) ∨ ∃ m, g m ∧ m ≠ vb ∧ Blk w vb 70 (verC rv 1 0 (.map (some m))) ∧ SpM w m rs
structure VerIn (w : World) (g : Nat → Prop) (vb : Nat) (rs : List TRow) (rv : Value) (sv : Nat → Value) : Prop where
  rows : RowsOwn w (fun k => g k ∧ k ≠ vb) rv rs sv
  idx : IdxAt w g vb rv rs
  own : g vb
  good : goodT rs = true
def VerAt (w : World) (g : Nat → Prop) (vb : Nat) (rs : List TRow) : Prop := ∃ rv sv, VerIn w g vb rs rv sv
theorem IdxAt.keep {w w' : World} {F g : Nat → Prop} {vb : Nat} {rv : Value} {rs : List TRow} (h : IdxAt w g vb rv rs) (ho : g vb) (hm : Mod F w w') (hd : ∀ k, g k → ¬ F k) : IdxAt w' g vb rv rs := by
  rcases h with h | ⟨m, h1, h2, h3, h4⟩
  · exact .inl (h.keep hm (hd _ ho))
  · exact .inr ⟨m, h1, h2, h3.keep hm (hd _ ho), h4.keep hm (hd _ h1)⟩
theorem VerIn.keep {w w' : World} {F g : Nat → Prop} {vb : Nat} {rs : List TRow} {rv : Value} {sv : Nat → Value} (h : VerIn w g vb rs rv sv) (hm : Mod F w w') (hd : ∀ k, g k → ¬ F k) : VerIn w' g vb rs rv sv :=
  ⟨h.rows.keep hm fun k hk => hd k hk.1, h.idx.keep h.own hm hd, h.own, h.good⟩
theorem IdxAt.lt {w : World} {g : Nat → Prop} {vb : Nat} {rv : Value} {rs : List TRow} (h : IdxAt w g vb rv rs) : vb < w.heap.size := by
  rcases h with h | ⟨m, h1, h2, h3, h4⟩
  · exact h.lt
  · exact h3.lt
theorem RowsOwn.mono {w : World} {f f' : Nat → Prop} {v : Value} {rs : List TRow} {sv : Nat → Value} (h : RowsOwn w f v rs sv) (hf : ∀ k, f k → f' k) : RowsOwn w f' v rs sv := ⟨h.row.mono hf, h.ok, fun i r hr => (h.next i r hr).mono hf⟩
theorem IdxAt.mono {w : World} {g g' : Nat → Prop} {vb : Nat} {rv : Value} {rs : List TRow} (h : IdxAt w g vb rv rs) (hg : ∀ k, g k → k < w.heap.size → g' k) : IdxAt w g' vb rv rs := by
  rcases h with h | ⟨m, h1, h2, h3, h4⟩
  · exact .inl h
  · exact .inr ⟨m, hg m h1 h4.lt, h2, h3, h4⟩
theorem VerIn.mono {w : World} {g g' : Nat → Prop} {vb : Nat} {rs : List TRow} {rv : Value} {sv : Nat → Value} (h : VerIn w g vb rs rv sv) (hg : ∀ k, g k → k < w.heap.size → g' k) : VerIn w g' vb rs rv sv :=
  ⟨h.rows.under.mono fun k hk => ⟨hg k hk.1.1 hk.2, hk.1.2⟩, h.idx.mono hg, hg _ h.own h.idx.lt, h.good⟩
theorem VerAt.keep {w w' : World} {F g : Nat → Prop} {vb : Nat} {rs : List TRow} (h : VerAt w g vb rs) (hm : Mod F w w') (hd : ∀ k, g k → ¬ F k) : VerAt w' g vb rs := by
  obtain ⟨rv, sv, h⟩ := h
  exact ⟨rv, sv, h.keep hm hd⟩
theorem VerAt.mono {w : World} {g g' : Nat → Prop} {vb : Nat} {rs : List TRow} (h : VerAt w g vb rs) (hg : ∀ k, g k → k < w.heap.size → g' k) : VerAt w g' vb rs := by
  obtain ⟨rv, sv, h⟩ := h
  exact ⟨rv, sv, h.mono hg⟩
theorem VerAt.own {w : World} {g : Nat → Prop} {vb : Nat} {rs : List TRow} (h : VerAt w g vb rs) : g vb := by
  obtain ⟨rv, sv, h⟩ := h
  exact h.own
theorem VerAt.good {w : World} {g : Nat → Prop} {vb : Nat} {rs : List TRow} (h : VerAt w g vb rs) : goodT rs = true := by
  obtain ⟨rv, sv, h⟩ := h
  exact h.good
theorem VerAt.lt {w : World} {g : Nat → Prop} {vb : Nat} {rs : List TRow} (h : VerAt w g vb rs) : vb < w.heap.size := by
  obtain ⟨rv, sv, h⟩ := h
  exact h.idx.lt
/-- what is kept of a version -/
def hasV (vs : List (Int × List TRow)) (v : Int) : Option (List TRow) := (vs.find? fun p => p.1 == v).map (·.2)
theorem hasV_mem {vs : List (Int × List TRow)} {v : Int} {rs : List TRow} (h : hasV vs v = some rs) : (v, rs) ∈ vs := by
  unfold hasV at h
  rw [Option.map_eq_some_iff] at h
  obtain ⟨p, hp, rfl⟩ := h
  have h1 := List.mem_of_find?_eq_some hp
  have h2 := List.find?_some hp
  simp only [beq_iff_eq] at h2
  rw [← h2]
  exact h1
def verPtr (vbo : Int → Nat) (n : Int) : Value := .pointer (some ⟨vbo n, 0, none⟩)
def verMap (vs : List (Int × List TRow)) (vbo : Int → Nat) : List (Int × Value) := vs.map fun p => (p.1, verPtr vbo p.1)
theorem mget_vs (vbo : Int → Nat) (v : Int) : ∀ vs : List (Int × List TRow), mget (verMap vs vbo) v = (hasV vs v).map fun _ => verPtr vbo v
  | [] => rfl
  | p :: vs => by
    have ih := mget_vs vbo v vs
    unfold mget verMap hasV at *
    rw [List.map_cons, List.find?_cons, List.find?_cons]
    by_cases h : p.1 = v
    · simp [h]
    · have hb : (p.1 == v) = false := by simp [h]
      simp only [hb]
      exact ih
structure TabIn (w : World) (f : Nat → Prop) (tb : Nat) (now : Int) (vs : List (Int × List TRow)) (mb : Nat) (vbo : Int → Nat) (g : Int → Nat → Prop) : Prop where
  tab : Blk w tb 56 [.map (some mb), .int .u64 now]
  map : Mp w mb .u32 (verMap vs vbo)
  ne : mb ≠ tb
  ftb : f tb
  fmb : f mb
  ver : ∀ p ∈ vs, VerAt w (g p.1) (vbo p.1) p.2
  sub : ∀ n k, g n k → f k ∧ k ≠ tb ∧ k ≠ mb
  dis : ∀ a b k, g a k → g b k → a = b
  keys : (vs.map (·.1)).Nodup
def TabAt (w : World) (f : Nat → Prop) (tb : Nat) (now : Int) (vs : List (Int × List TRow)) : Prop := ∃ mb vbo g, TabIn w f tb now vs mb vbo g
theorem TabIn.keep {w w' : World} {F f : Nat → Prop} {tb mb : Nat} {now : Int} {vs : List (Int × List TRow)} {vbo : Int → Nat} {g : Int → Nat → Prop} (h : TabIn w f tb now vs mb vbo g) (hm : Mod F w w') (hd : ∀ k, f k → ¬ F k) : TabIn w' f tb now vs mb vbo g :=
  ⟨h.tab.keep hm (hd _ h.ftb), h.map.keep hm (hd _ h.fmb), h.ne, h.ftb, h.fmb, fun p hp => (h.ver p hp).keep hm fun k hk => hd k (h.sub _ _ hk).1, h.sub, h.dis, h.keys⟩
theorem TabAt.keep {w w' : World} {F f : Nat → Prop} {tb : Nat} {now : Int} {vs : List (Int × List TRow)} (h : TabAt w f tb now vs) (hm : Mod F w w') (hd : ∀ k, f k → ¬ F k) : TabAt w' f tb now vs := by
  obtain ⟨mb, vbo, g, h⟩ := h
  exact ⟨mb, vbo, g, h.keep hm hd⟩
theorem TabAt.mono {w : World} {f f' : Nat → Prop} {tb : Nat} {now : Int} {vs : List (Int × List TRow)} (h : TabAt w f tb now vs) (hf : ∀ k, f k → k < w.heap.size → f' k) : TabAt w f' tb now vs := by
  obtain ⟨mb, vbo, g, h⟩ := h
  exact ⟨mb, vbo, fun n k => g n k ∧ k < w.heap.size, h.tab, h.map, h.ne, hf _ h.ftb h.tab.lt, hf _ h.fmb h.map.lt, fun p hp => (h.ver p hp).mono fun k hk hl => ⟨hk, hl⟩, fun n k hk => ⟨hf k (h.sub n k hk.1).1 hk.2, (h.sub n k hk.1).2⟩, fun a b k ha hb => h.dis a b k ha.1 hb.1, h.keys⟩
/-- one version has changed in itself -/
theorem TabIn.find {w w' : World} {f : Nat → Prop} {tb mb : Nat} {now n : Int} {rs : List TRow} {vs : List (Int × List TRow)} {vbo : Int → Nat} {g : Int → Nat → Prop} (h : TabIn w f tb now vs mb vbo g) (hn : (n, rs) ∈ vs) (hv : VerAt w' (fun k => g n k ∨ w.heap.size ≤ k) (vbo n) rs) (hm : Mod (fun k => k = vbo n) w w') :
    TabAt w' (fun k => f k ∨ w.heap.size ≤ k) tb now vs := by
  have ho := (h.ver _ hn).own
  have hl := h.tab.lt
  have hl' := h.map.lt
  refine ⟨mb, vbo, fun a k => if a = n then (g n k ∨ w.heap.size ≤ k) ∧ (k ≠ tb ∧ k ≠ mb) else g a k ∧ k < w.heap.size, h.tab.keep hm (fun e => (h.sub _ _ ho).2.1 e.symm), h.map.keep hm (fun e => (h.sub _ _ ho).2.2 e.symm), h.ne, .inl h.ftb, .inl h.fmb, ?_, ?_, ?_, h.keys⟩
  · intro p hp
    by_cases hpn : p.1 = n
    · have hpe : p = (n, rs) := by
        obtain ⟨a, ra⟩ := p
        have hpn : a = n := hpn
        subst hpn
        obtain ⟨i, hi, e1⟩ := List.getElem_of_mem hp
        obtain ⟨j, hj, e2⟩ := List.getElem_of_mem hn
        have hij : i = j := by
          have := (List.getElem_inj (xs := vs.map fun p => p.1) (i := i) (j := j) (h₀ := by simpa using hi) (h₁ := by simpa using hj) h.keys).1 (by simp [e1, e2])
          exact this
        subst hij
        rw [← e1, ← e2]
      rw [hpe]
      simp only [if_pos]
      exact hv.mono fun k hk _ => ⟨hk, by
        rcases hk with hk | hk
        · exact (h.sub _ _ hk).2
        · exact ⟨by omega, by omega⟩⟩
    · simp only [if_neg hpn]
      exact ((h.ver p hp).mono (g' := fun k => g p.1 k ∧ k < w.heap.size) fun k hk hl => ⟨hk, hl⟩).keep hm fun k hk e => hpn (h.dis _ _ _ hk.1 (by rw [e]; exact ho))
  · intro a k hk
    by_cases ha : a = n
    · subst ha
      simp only [if_pos] at hk
      exact ⟨hk.1.imp (fun x => (h.sub _ _ x).1) fun x => x, hk.2⟩
    · simp only [if_neg ha] at hk
      exact ⟨.inl (h.sub _ _ hk.1).1, (h.sub _ _ hk.1).2⟩
  · intro a b k ha hb
    by_cases e1 : a = n
    · by_cases e2 : b = n
      · rw [e1, e2]
      · subst e1
        simp only [if_pos] at ha
        simp only [if_neg e2] at hb
        rcases ha.1 with x | x
        · exact h.dis _ _ _ x hb.1
        · omega
    · by_cases e2 : b = n
      · subst e2
        simp only [if_pos] at hb
        simp only [if_neg e1] at ha
        rcases hb.1 with x | x
        · exact h.dis _ _ _ ha.1 x
        · omega
      · simp only [if_neg e1] at ha
        simp only [if_neg e2] at hb
        exact h.dis _ _ _ ha.1 hb.1
/-- a new version -/
theorem TabIn.add {w w' w'' : World} {f : Nat → Prop} {tb mb vb : Nat} {now n : Int} {rs : List TRow} {vs : List (Int × List TRow)} {vbo : Int → Nat} {g : Int → Nat → Prop} (h : TabIn w f tb now vs mb vbo g) (hn : hasV vs n = none) (hm : Mod (fun _ => False) w w') (hv : VerAt w' (fun k => w.heap.size ≤ k) vb rs)
    (hp : Mp w'' mb .u32 (verMap vs vbo ++ [(n, .pointer (some ⟨vb, 0, none⟩))])) (hm2 : Mod (fun k => k = mb) w' w'') : TabAt w'' (fun k => f k ∨ w.heap.size ≤ k) tb now (vs ++ [(n, rs)]) := by
  have hl := h.tab.lt
  have hl' := h.map.lt
  have hno : ∀ p ∈ vs, ¬ p.1 = n := by
    intro p hp e
    unfold hasV at hn
    rw [Option.map_eq_none_iff, List.find?_eq_none] at hn
    exact hn p hp (by simp [e])
  have hM : Mod (fun k => k = mb) w w'' := (hm.mono fun x hx => hx.elim).trans hm2 fun x hx => .inl hx
  refine ⟨mb, fun a => if a = n then vb else vbo a, fun a k => if a = n then w.heap.size ≤ k else g a k ∧ k < w.heap.size, h.tab.keep hM (fun e => h.ne e.symm), ?_, h.ne, .inl h.ftb, .inl h.fmb, ?_, ?_, ?_, ?_⟩
  · have e : verMap (vs ++ [(n, rs)]) (fun a => if a = n then vb else vbo a) = verMap vs vbo ++ [(n, .pointer (some ⟨vb, 0, none⟩))] := by
      unfold verMap verPtr
      simp only [List.map_append, List.map_cons, List.map_nil, if_pos]
      congr 1
      refine List.map_congr_left fun p hp => ?_
      rw [if_neg (hno p hp)]
    rw [e]
    exact hp
  · intro p hp
    rw [List.mem_append, List.mem_singleton] at hp
    rcases hp with hp | rfl
    · simp only [if_neg (hno p hp)]
      exact (((h.ver p hp).mono (g' := fun k => g p.1 k ∧ k < w.heap.size) fun k hk hl => ⟨hk, hl⟩).keep hM fun k hk e => (h.sub _ _ hk.1).2.2 e)
    · simp only [if_pos]
      exact hv.keep hm2 fun k hk e => by have hk : w.heap.size ≤ k := hk; omega
  · intro a k hk
    by_cases ha : a = n
    · subst ha
      simp only [if_pos] at hk
      exact ⟨.inr hk, by omega, by omega⟩
    · simp only [if_neg ha] at hk
      exact ⟨.inl (h.sub _ _ hk.1).1, (h.sub _ _ hk.1).2⟩
  · intro a b k ha hb
    by_cases e1 : a = n
    · by_cases e2 : b = n
      · rw [e1, e2]
      · subst e1
        simp only [if_pos] at ha
        simp only [if_neg e2] at hb
        omega
    · by_cases e2 : b = n
      · subst e2
        simp only [if_pos] at hb
        simp only [if_neg e1] at ha
        omega
      · simp only [if_neg e1] at ha
        simp only [if_neg e2] at hb
        exact h.dis _ _ _ ha.1 hb.1
  · rw [List.map_append, List.nodup_append]
    refine ⟨h.keys, by simp, ?_⟩
    intro a ha b hb e
    simp at hb
    subst hb
    subst e
    obtain ⟨p, hp, he⟩ := List.mem_map.1 ha
    exact hno p hp he
theorem TabAt.new {w : World} {tb mb : Nat} (h : Blk w tb 56 [.map (some mb), .int .u64 0]) (hm : Mp w mb .u32 []) (hne : mb ≠ tb) (f : Nat → Prop) (ht : f tb) (hb : f mb) : TabAt w f tb 0 [] :=
  ⟨mb, fun _ => 0, fun _ _ => False, h, hm, hne, ht, hb, fun p hp => (by cases hp), fun n k hk => hk.elim, fun a b k hk => hk.elim, List.nodup_nil⟩
end Go.Proofs.Ytegjamjognpdkaa
namespace Go.Proofs.Ytegjamjognpdkaa
open Go.RowKit
set_option linter.unusedVariables false
/-- how far b stands behind a, on a ring of 2^32 -/
def Sr.gap (a b : Int) : Int := if (b - a) % 4294967296 < 2147483648 then (b - a) % 4294967296 else (b - a) % 4294967296 - 4294967296
def Sr.add (n k : Int) : Int := (n + k) % 4294967296
def Sr.ring (n : Int) : Int := n % 4294967296
def Sr.within (n f k : Int) : Bool := decide ((n - f) % 4294967296 < (if k < 0 then 0 else if 2147483647 < k then 2147483647 else k))
theorem Sr.gap_bd (a b : Int) : -2147483648 ≤ Sr.gap a b ∧ Sr.gap a b ≤ 2147483647 := by unfold Sr.gap; split <;> omega
theorem Sr.add_bd (n k : Int) : 0 ≤ Sr.add n k ∧ Sr.add n k < 4294967296 := by unfold Sr.add; omega
theorem Sr.ring_bd (n : Int) : 0 ≤ Sr.ring n ∧ Sr.ring n < 4294967296 := by unfold Sr.ring; omega
theorem ret_int {k : IntKind} {a b : Int} (h : a = b) : Ending.returned (.int k a) = .returned (.int k b) := by rw [h]
theorem ret_bool {a b : Bool} (h : a = b) : Ending.returned (.bool a) = .returned (.bool b) := by rw [h]

theorem u32_bd {a : Int} (h : (Lit.int .u32 a).wf = true) : 0 ≤ a ∧ a < 4294967296 := by simp [Lit.wf, IntKind.min, IntKind.max, IntKind.signed, IntKind.bits] at h; omega
theorem u16_bd {a : Int} (h : (Lit.int .u16 a).wf = true) : 0 ≤ a ∧ a < 65536 := by simp [Lit.wf, IntKind.min, IntKind.max, IntKind.signed, IntKind.bits] at h; omega
theorem i64_bd {a : Int} (h : (Lit.int .i64 a).wf = true) : -9223372036854775808 ≤ a ∧ a ≤ 9223372036854775807 := by simp [Lit.wf, IntKind.min, IntKind.max, IntKind.signed, IntKind.bits] at h; omega
theorem wrap64_bd (a : Int) : -9223372036854775808 ≤ wrap64 a ∧ wrap64 a ≤ 9223372036854775807 := by unfold wrap64; omega
theorem gap_any (a b : Int) (w : World) :
    Calls Try.prog 61 #[.int .u32 a, .int .u32 b] w fun e w' => e = .returned (.int .i64 (Sr.gap a b)) ∧ w = w' := by
  go_enter Try.func61, Try.ntmps61
  go_wp2
  go_ret
  refine ⟨ret_int ?_, rfl⟩
  unfold Sr.gap wrap64 wrap32
  omega
theorem Less_any (a b : Int) (w : World) :
    Calls Try.prog 43 #[.int .u32 a, .int .u32 b] w fun e w' => e = .returned (.bool (decide (0 < Sr.gap a b))) ∧ w = w' := by
  go_enter Try.func43, Try.ntmps43
  go_wp2_with (go_at_call 61; refine (gap_any _ _ _).mono ?_; rintro e w' ⟨rfl, rfl⟩)
  go_ret
  exact ⟨rfl, rfl⟩
theorem tmod_ring (n : Int) : n.tmod 4294967296 = if n < 0 then (if n % 4294967296 = 0 then 0 else n % 4294967296 - 4294967296) else n % 4294967296 := by
  rw [Int.tmod_eq_emod]
  split <;> split <;> (try split) <;> omega
end Go.Proofs.Ytegjamjognpdkaa
namespace Go.Proofs.Ytegjamjognpdkaa
open Go.RowKit
set_option linter.unusedVariables false
set_option linter.unusedSimpArgs false
theorem do_any {rs : List TRow} {rv : Value} {sv : Nat → Value} {g : Nat → Prop} (vb p : Nat) (w : World) (h : VerIn w g vb rs rv sv) (hp : w.cell? ⟨p, 0, none⟩ = some (.pointer (some ⟨vb, 0, none⟩))) (hpv : p ≠ vb) :
    Calls Try.prog 45 #[.pointer (some ⟨vb, 1, none⟩), .func (.func 46) #[] #[.pointer (some ⟨p, 0, none⟩)]] w fun e w' => e = .returned (.tuple #[]) ∧ Mod (fun k => k = vb) w w' ∧
      ∃ m, (g m ∨ w.heap.size ≤ m) ∧ m ≠ vb ∧ Blk w' vb 70 (verC rv 1 0 (.map (some m))) ∧ SpM w' m rs := by
  have hvl := h.idx.lt
  rcases h.idx with h1 | ⟨m, h1, h2, h3, h4⟩
  · refine (do_first rs rv sv (.map none) vb p w _ h.rows (goodT_le h.good) (goodT_sorted h.good h.rows.ok) (fun k hk => hk.2) h1 hp hpv).mono ?_
    rintro e w' ⟨rfl, mb, hmb, HJ⟩
    exact ⟨rfl, HJ.mod, mb, .inr hmb, by omega, HJ.ver, by have := HJ.map; rwa [List.take_length] at this⟩
  · refine (do_done ⟨vb, 1, none⟩ _ w (h3.cell rfl)).mono ?_
    rintro e w' ⟨rfl, rfl⟩
    exact ⟨rfl, Mod.refl _ _, m, .inl h1, h2, h3, h4⟩
theorem spotSz0 : (Try.prog.info? 75).map (·.size) = some 19 := by kernel_rfl
theorem spotSz (r : TRow) (hr : r.b.length = 16) : (Try.prog.info? 75).map (·.size) = some (spotC r).length := by
  have e : (spotC r).length = 19 := by simp [spotC, adrC, hr]
  rw [e]
  exact spotSz0
set_option maxRecDepth 100000 in
set_option maxHeartbeats 4000000 in
theorem find_any {rs : List TRow} {rv : Value} {sv : Nat → Value} {g : Nat → Prop} (vb : Nat) (x : TRow) (w : World) (h : VerIn w g vb rs rv sv) (hx : x.b.length = 16) :
    Calls Try.prog 23 #[.pointer (some ⟨vb, 0, none⟩), .agg (spotC x).toArray] w fun e w' => e = .returned (.tuple #[.int .i64 (((placeR x rs).getD 0 : Nat) : Int), .bool (placeR x rs).isSome]) ∧
      VerIn w' (fun k => g k ∨ w.heap.size ≤ k) vb rs rv sv ∧ Mod (fun k => k = vb) w w' := by
  have hmf : ∀ (fn : Fn) (first cap : Array Value) (w : World), (Instr.makeFunc fn first cap).run Try.prog w = .ok (.func fn first cap) w := fun _ _ _ _ => rfl
  have hA := Blk.alloc (Blk.new w 57 [.pointer (some ⟨vb, 0, none⟩)]) (.cells (spotC x).toArray 75 (0, 0))
  have hB := Blk.new (w.alloc (.cells [Value.pointer (some ⟨vb, 0, none⟩)].toArray 57 (0, 0))) 75 (spotC x)
  have hm : Mod (fun _ => False) w ((w.alloc (.cells [Value.pointer (some ⟨vb, 0, none⟩)].toArray 57 (0, 0))).alloc (.cells (spotC x).toArray 75 (0, 0))) := ((Mod.refl _ _).alloc _).alloc _
  rw [show (w.alloc (.cells [Value.pointer (some ⟨vb, 0, none⟩)].toArray 57 (0, 0))).heap.size = w.heap.size + 1 by simp] at hB
  have cA := hA.cell (j := 0) rfl
  have hvl := h.idx.lt
  go_enter Try.func23, Try.ntmps23
  go_wp2_with fail
  obtain ⟨W0, hW0⟩ : ∃ W0, W0 = (w.alloc (.cells [Value.pointer (some ⟨vb, 0, none⟩)].toArray 57 (0, 0))).alloc (.cells (spotC x).toArray 75 (0, 0)) := ⟨_, rfl⟩
  obtain ⟨pb, hpb⟩ : ∃ pb, pb = w.heap.size := ⟨_, rfl⟩
  obtain ⟨pc, hpc⟩ : ∃ pc, pc = w.heap.size + 1 := ⟨_, rfl⟩
  rw [← hW0, ← hpb] at hA
  rw [← hW0, ← hpc] at hB
  rw [← hW0] at hm
  rw [← hW0, ← hpb] at cA
  try rw [← hW0]
  try rw [← hpc]
  try rw [← hpb]
  have HI := Lib.hid ((h.mono (g' := fun k => g k ∧ k < w.heap.size) fun k hk hl => ⟨hk, hl⟩).keep hm fun k _ f => f)
  have HB := Lib.hid hB
  have HM := Lib.hid hm
  have HA := Lib.hid hA
  have HPB := Lib.hid hpb
  have HPC := Lib.hid hpc
  have HVL := Lib.hid hvl
  have HX := Lib.hid hx
  have HSZ := Lib.hid (spotSz x hx)
  have HWS : Hid (w.heap.size ≤ W0.heap.size) := Lib.hid hm.size
  clear hA hB hm hW0 hpb hpc hvl h hx
  refine (do_any vb pb _ HI.out cA (by have := HPB.out; have := HVL.out; omega)).mono ?_; rintro e w1 ⟨rfl, hm1, m, hgm, hmv, hb1, hs1⟩
  clear cA
  have HB1 := Lib.hid hb1
  have HS1 := Lib.hid hs1
  have HM1 := Lib.hid hm1
  have HGM := Lib.hid hgm
  have HMV := Lib.hid hmv
  have hS : w1.cell? ⟨pb, 0, none⟩ = some (.pointer (some ⟨vb, 0, none⟩)) ∧ w1.cell? ⟨vb, 4, none⟩ = some (.map (some m)) ∧ Blk w1 pc 75 (spotC x) ∧ SpM w1 m rs :=
    ⟨hm1.cell (show ¬ pb = vb by have := HPB.out; have := HVL.out; omega) (HA.out.cell rfl), hb1.cell rfl, HB.out.keep hm1 (show ¬ pc = vb by have := HPC.out; have := HVL.out; omega), hs1⟩
  clear hb1 hs1 hm1 hgm hmv
  have HOK := Lib.hid HI.out.rows.ok
  have HF : Hid (VerIn w1 (fun k => g k ∨ w.heap.size ≤ k) vb rs rv sv) := Lib.hid ⟨(HI.out.rows.keep HM1.out fun k hk => hk.2).mono fun k hk => ⟨.inl hk.1.1, hk.2⟩, .inr ⟨m, HGM.out.imp (fun x => x.1) (fun x => Nat.le_trans HWS.out x), HMV.out, HB1.out, HS1.out⟩, .inl HI.out.own.1, HI.out.good⟩
  have HMW : Hid (Mod (fun k => k = vb) w w1) := Lib.hid ((HM.out.mono fun x hx => hx.elim).trans HM1.out fun x hx => .inl hx)
  go_wp2_with fail
  refine wp_region_plan [] [(0, 1), (1, 0), (2, 0), (3, 1), (4, 1), (5, 1), (6, 0), (7, 0), (8, 0), (9, 0), (10, 0)] (fun w' : World => w'.cell? ⟨pb, 0, none⟩ = some (.pointer (some ⟨vb, 0, none⟩)) ∧ w'.cell? ⟨vb, 4, none⟩ = some (.map (some m)) ∧ Blk w' pc 75 (spotC x) ∧ SpM w' m rs) (by kernel_rfl) (by kernel_rfl) (fun d _ _ _ _ h => by cases d <;> exact h) ?_
  repeat (first | (refine plan_skip rfl rfl ?_; simp only [List.getElem_toArray, List.getElem_cons_succ, List.getElem_cons_zero, Act.put, List.setIfInBounds_toArray, List.set_cons_zero, List.set_cons_succ]) | (refine plan_pass2 rfl rfl ?_; simp only [List.getElem_toArray, List.getElem_cons_succ, List.getElem_cons_zero, Act.put, List.setIfInBounds_toArray, List.set_cons_zero, List.set_cons_succ]) | (refine plan_pass3 rfl rfl ?_; simp only [List.getElem_toArray, List.getElem_cons_succ, List.getElem_cons_zero, Act.put, List.setIfInBounds_toArray, List.set_cons_zero, List.set_cons_succ]) | (refine plan_take (v := ?_) rfl rfl ?_ ?_; rotate_left; (focus (intro w0; go_simp; try with_reducible rfl)); simp only [List.getElem_toArray, List.getElem_cons_succ, List.getElem_cons_zero, Act.put, List.setIfInBounds_toArray, List.set_cons_zero, List.set_cons_succ]) | (refine plan_held (v := ?_) rfl rfl hS ?_ ?_; rotate_left; (focus (intro w0 hSw; (try dsimp only at hSw); go_split_ands; go_simp; try with_reducible rfl)); simp only [List.getElem_toArray, List.getElem_cons_succ, List.getElem_cons_zero, Act.put, List.setIfInBounds_toArray, List.set_cons_zero, List.set_cons_succ])  | (refine plan_skip1 rfl rfl hS ?_; simp only [List.getElem_toArray, List.getElem_cons_succ, List.getElem_cons_zero, Act.put, List.setIfInBounds_toArray, List.set_cons_zero, List.set_cons_succ]))
  (refine plan_held (v := .agg (spotC x).toArray) rfl rfl hS (fun w0 h0 => exec_load_blk _ _ rfl pc 0 rfl 75 (spotC x) (spotC x) _ w0 h0.2.2.1 (by simp) Try.underlying75 rfl HSZ.out) ?_; try simp only [List.getElem_toArray, List.getElem_cons_succ, List.getElem_cons_zero, Act.put, List.setIfInBounds_toArray, List.set_cons_zero, List.set_cons_succ])
  (refine plan_held (v := .tuple #[.int .i64 (((placeR x rs).getD 0 : Nat) : Int), .bool (placeR x rs).isSome]) rfl rfl hS (fun w0 h0 => exec_lookup_spot rfl rfl rfl HX.out (fun r hr => (HOK.out r hr).1) h0.2.2.2) ?_; try simp only [List.getElem_toArray, List.getElem_cons_succ, List.getElem_cons_zero, Act.put, List.setIfInBounds_toArray, List.set_cons_zero, List.set_cons_succ])
  repeat (first | (refine plan_skip rfl rfl ?_; simp only [List.getElem_toArray, List.getElem_cons_succ, List.getElem_cons_zero, Act.put, List.setIfInBounds_toArray, List.set_cons_zero, List.set_cons_succ]) | (refine plan_pass2 rfl rfl ?_; simp only [List.getElem_toArray, List.getElem_cons_succ, List.getElem_cons_zero, Act.put, List.setIfInBounds_toArray, List.set_cons_zero, List.set_cons_succ]) | (refine plan_pass3 rfl rfl ?_; simp only [List.getElem_toArray, List.getElem_cons_succ, List.getElem_cons_zero, Act.put, List.setIfInBounds_toArray, List.set_cons_zero, List.set_cons_succ]) | (refine plan_take (v := ?_) rfl rfl ?_ ?_; rotate_left; (focus (intro w0; go_simp; try with_reducible rfl)); simp only [List.getElem_toArray, List.getElem_cons_succ, List.getElem_cons_zero, Act.put, List.setIfInBounds_toArray, List.set_cons_zero, List.set_cons_succ]) | fail )
  refine plan_nil ?_
  go_wp2
  go_ret2
  exact ⟨rfl, HF.out.keep (Mod.refl (fun _ => False) _).drew (fun k _ f => f), HMW.out.drew⟩
end Go.Proofs.Ytegjamjognpdkaa
namespace Go.Proofs.Ytegjamjognpdkaa
open Go.RowKit
set_option linter.unusedVariables false
set_option linter.unusedSimpArgs false
theorem vof_any {w : World} {f : Nat → Prop} {tb mb : Nat} {now : Int} {vs : List (Int × List TRow)} {vbo : Int → Nat} {g : Int → Nat → Prop} (h : TabIn w f tb now vs mb vbo g) (v : Int) :
    Calls Try.prog 22 #[.pointer (some ⟨tb, 0, none⟩), .int .u32 v] w fun e w' => e = .returned (.pointer ((hasV vs v).map fun _ => ⟨vbo v, 0, none⟩)) ∧ w' = w := by
  have c0 := h.tab.cell (j := 0) rfl
  have hlk := run_lookup_mp Try.underlying48 Try.underlying28 (fun w => (by kernel_rfl : (zeroValue 57).run Try.prog w = .ok (.pointer none) w)) h.map v false
  rw [mget_vs] at hlk
  have hz : ((hasV vs v).map fun _ => verPtr vbo v).getD (.pointer none) = .pointer ((hasV vs v).map fun _ => ⟨vbo v, 0, none⟩) := by cases hasV vs v <;> rfl
  simp only [Bool.false_eq_true, if_false, hz] at hlk
  clear h hz
  go_enter Try.func22, Try.ntmps22
  go_wp2
  go_ret
  exact ⟨rfl, rfl⟩
def curV (now : Int) : Int := (now - 1) % 4294967296
theorem current_any {w : World} {tb mb : Nat} {now : Int} (h : Blk w tb 56 [.map (some mb), .int .u64 now]) (h0 : 0 ≤ now) (h1 : now ≤ 4294967296) :
    Calls Try.prog 42 #[.pointer (some ⟨tb, 0, none⟩)] w fun e w' => e = .returned (.tuple #[.int .u32 (curV now), .bool (decide (0 < now))]) ∧ w' = w := by
  have hl := run_call_load (P := Try.prog) Try.func73 (by kernel_rfl) (by kernel_rfl) (by kernel_rfl) .u64 (by kernel_rfl) (h.cell (j := 1) rfl)
  clear h
  go_enter Try.func42, Try.ntmps42
  go_wp2_with (go_at_call 60; go_in)
  go_ret2
  refine ⟨?_, rfl⟩
  have e : IntKind.u64.wrap (now - 1) % 4294967296 = curV now := by
    unfold curV
    rw [IntKind.wrap_u64]
    omega
  show Ending.returned (.tuple #[.int .u32 (IntKind.u64.wrap (now - 1) % 4294967296), .bool (decide (0 < now))]) = _
  rw [e]
def aheadB (now v : Int) : Bool := decide (0 < now) && !decide (0 < Sr.gap (curV now) v)
theorem ahead_any {w : World} {tb mb : Nat} {now : Int} (h : Blk w tb 56 [.map (some mb), .int .u64 now]) (h0 : 0 ≤ now) (h1 : now ≤ 4294967296) (v : Int) :
    Calls Try.prog 20 #[.pointer (some ⟨tb, 0, none⟩), .int .u32 v] w fun e w' => e = .returned (.bool (aheadB now v)) ∧ w' = w := by
  have HC := Lib.hid (current_any h h0 h1)
  have hnot : ∀ (x : Bool) (w : World), (Op.unary .not (.bool x)).run Try.prog w = .ok (.bool (!x)) w := fun _ _ => rfl
  go_enter Try.func20, Try.ntmps20
  by_cases hn : 0 < now
  · have hd : decide (0 < now) = true := decide_eq_true hn
    go_wp2_with (first | (go_at_call 42; refine HC.out.mono ?_; rintro e w' ⟨rfl, rfl⟩; rw [hd]) | (go_at_call 43; refine (Less_any _ _ _).mono ?_; rintro e w' ⟨rfl, rfl⟩))
    go_ret
    exact ⟨by unfold aheadB; rw [hd]; rfl, rfl⟩
  · have hd : decide (0 < now) = false := decide_eq_false hn
    go_wp2_with (go_at_call 42; refine HC.out.mono ?_; rintro e w' ⟨rfl, rfl⟩; rw [hd])
    go_ret
    exact ⟨by unfold aheadB; rw [hd]; rfl, rfl⟩
theorem New_any (w : World) :
    Calls Try.prog 7 #[] w fun e w' => ∃ tb, e = .returned (.pointer (some ⟨tb, 0, none⟩)) ∧ TabAt w' (fun k => w.heap.size ≤ k) tb 0 [] ∧ Mod (fun _ => False) w w' := by
  have hmk : ∀ w : World, (Instr.makeMap 48 none).run Try.prog w = .ok (.map (some w.heap.size)) (w.alloc (.map #[] 0)) := fun w => by
    simp [Instr.makeMap, run_underlying Try.underlying48, Result.andThen, newObj]
    rfl
  have hz := Try.zeroValue56
  go_enter Try.func7, Try.ntmps7
  go_wp2
  go_ret
  have hb := Blk.new (w.alloc (.map #[] 0)) 56 [.map (some w.heap.size), .int .u64 0]
  rw [show (w.alloc (.map #[] 0)).heap.size = w.heap.size + 1 by simp] at hb
  refine ⟨_, rfl, TabAt.new hb (Mp.alloc ⟨#[], 0, allocNew w _, rfl⟩ _) (by omega) (fun k => w.heap.size ≤ k) (Nat.le_succ _) (Nat.le_refl _), ((Mod.refl _ _).alloc _).alloc _⟩
end Go.Proofs.Ytegjamjognpdkaa
namespace Go.Proofs.Ytegjamjognpdkaa
open Go.RowKit
set_option linter.unusedVariables false
set_option linter.unusedSimpArgs false
theorem eql_ver (vb : Nat) (w : World) : (binOp .eql 57 (.pointer (some ⟨vb, 0, none⟩)) (.pointer none)).run Try.prog w = .ok (.bool false) w := by kernel_rfl
/-- what a node is told of whom it sends on to -/
def nextT (vs : List (Int × List TRow)) (v : Int) (x : TRow) : Option (List Int) := (hasV vs v).bind fun rs => (placeR x rs).map fun i => (rs.getD i rowNo).next
theorem VerIn.rowsAt {w : World} {g : Nat → Prop} {vb : Nat} {rs : List TRow} {rv : Value} {sv : Nat → Value} (h : VerIn w g vb rs rv sv) : w.cell? ⟨vb, 0, none⟩ = some rv := by
  rcases h.idx with h | ⟨m, _, _, h, _⟩
  · exact h.cell rfl
  · exact h.cell rfl
theorem wpList_value {P : Program} {w : World} {ops : Array Oper} {rest : List Oper} {o : Oper} {a : Act} {Q : Exit → Act → World → Prop} (hgd : o.guard = none) (v : Value) (hrun : (execOp a.eval o).run P w = .ok (.value v) w)
    (h : wpList P ops Q rest (a.put o.dst v) w) : wpList P ops Q (o :: rest) a w := by
  refine wpList_plain hgd fun K hK => ?_
  unfold Oper.wp
  rw [hrun]
  exact hK _ _ h
set_option maxRecDepth 100000 in
/-- Rows -/
theorem tRows_any {w : World} {f : Nat → Prop} {tb : Nat} {now : Int} {vs : List (Int × List TRow)} (h : TabAt w f tb now vs) (v : Int) :
    Calls Try.prog 9 #[.pointer (some ⟨tb, 0, none⟩), .int .u32 v] w fun e w' => ∃ u sv, e = .returned (.tuple #[u, .bool (hasV vs v).isSome]) ∧ RowsOwn w' (fun k => w.heap.size ≤ k) u ((hasV vs v).getD []) sv ∧ Mod (fun _ => False) w w' := by
  obtain ⟨mb, vbo, g, h⟩ := h
  have HO := Lib.hid (vof_any h v)
  cases hv : hasV vs v with
  | none =>
    rw [hv] at HO
    clear h
    go_enter Try.func9, Try.ntmps9
    go_wp2_with (go_at_call 22; refine HO.out.mono ?_; rintro e w' ⟨rfl, rfl⟩)
    go_ret2
    exact ⟨_, fun _ => .slice none 0 0, rfl, RowsOwn.nil _ _ _, Mod.refl _ _⟩
  | some rs =>
    rw [hv] at HO
    obtain ⟨rv, sv, hi⟩ := h.ver _ (hasV_mem hv)
    have hi' : VerIn w (g v) (vbo v) rs rv sv := hi
    have c0 := hi'.rowsAt
    have HI := Lib.hid hi'
    have hne := eql_ver (vbo v)
    clear h hi hi' hv
    go_enter Try.func9, Try.ntmps9
    go_wp2_with (go_at_call 22; refine HO.out.mono ?_; rintro e w' ⟨rfl, rfl⟩)
    refine (own_any rv rs sv _ HI.out.rows.at (goodT_le HI.out.good) (fun r hr => goodT_next HI.out.good hr)).mono ?_
    rintro e w1 ⟨u, sv', rfl, hr1, hm1⟩
    have HR1 := Lib.hid hr1
    have HM1 := Lib.hid hm1
    clear hr1 hm1
    go_wp2
    go_ret2
    exact ⟨u, sv', rfl, HR1.out, HM1.out⟩
set_option maxRecDepth 100000 in
set_option maxHeartbeats 4000000 in
/-- Next -/
theorem tNext_any {w : World} {f : Nat → Prop} {tb : Nat} {now : Int} {vs : List (Int × List TRow)} (h : TabAt w f tb now vs) (v : Int) (x : TRow) (hx : x.b.length = 16) :
    Calls Try.prog 10 #[.pointer (some ⟨tb, 0, none⟩), .int .u32 v, .int .i64 x.vlan, .agg (adrC x.v6 x.b).toArray, .int .i64 x.root] w fun e w' => ∃ u hs, e = .returned (.tuple #[u, .bool (nextT vs v x).isSome]) ∧ (w.heap.size ≤ hs ∧ hs ≤ w'.heap.size) ∧
      Row w' (fun k => hs ≤ k) 3 1 u ((nextT vs v x).getD []).length (ints ((nextT vs v x).getD [])) ∧ TabAt w' (fun k => (f k ∨ w.heap.size ≤ k) ∧ k < hs) tb now vs ∧ Mod f w w' := by
  obtain ⟨mb, vbo, g, h⟩ := h
  have hB := Blk.new w 36 (adrC x.v6 x.b)
  have hm0 : Mod (fun _ => False) w (w.alloc (.cells (adrC x.v6 x.b).toArray 36 (0, 0))) := (Mod.refl _ _).alloc _
  have h1 := h.keep hm0 fun k _ f => f
  have HO := Lib.hid (vof_any h1 v)
  cases hv : hasV vs v with
  | none =>
    have hnx : nextT vs v x = none := by unfold nextT; rw [hv]; rfl
    rw [hv] at HO
    rw [hnx]
    have HT : Hid (TabAt (w.alloc (.cells (adrC x.v6 x.b).toArray 36 (0, 0))) f tb now vs) := Lib.hid ⟨_, _, _, h1⟩
    have HM := Lib.hid hm0
    clear h h1 hB hm0
    go_enter Try.func10, Try.ntmps10
    go_wp2_with (go_at_call 22; refine HO.out.mono ?_; rintro e w' ⟨rfl, rfl⟩)
    go_ret2
    exact ⟨_, _, rfl, ⟨HM.out.size, Nat.le_refl _⟩, Row.nil _ _ _ _, HT.out.mono fun k hk hl => ⟨.inl hk, hl⟩, HM.out.mono fun _ f => f.elim⟩
  | some rs =>
    rw [hv] at HO
    obtain ⟨rv, sv, hi⟩ := h1.ver _ (hasV_mem hv)
    have HI : Hid (VerIn (w.alloc (.cells (adrC x.v6 x.b).toArray 36 (0, 0))) (g v) (vbo v) rs rv sv) := Lib.hid hi
    have HF := Lib.hid (find_any (vbo v) x _ HI.out hx)
    have HMEM := Lib.hid (hasV_mem hv)
    have hne := eql_ver (vbo v)
    have HAZ : Hid ((Try.prog.info? 36).map (·.size) = some (adrC x.v6 x.b).length) := Lib.hid (by rw [adrC_len, hx]; exact adrSz)
    have hnot : ∀ (x : Bool) (w : World), (Op.unary .not (.bool x)).run Try.prog w = .ok (.bool (!x)) w := fun _ _ => rfl
    have HB := Lib.hid hB
    have HT1 := Lib.hid h1
    have HM := Lib.hid hm0
    clear h h1 hi hB hm0
    cases hp : placeR x rs with
    | none =>
      have hnx : nextT vs v x = none := by unfold nextT; rw [hv, Option.bind_some, hp]; rfl
      rw [hp] at HF
      rw [hnx]
      clear hv
      go_enter Try.func10, Try.ntmps10
      go_wp2_with (first | (go_at_call 22; refine HO.out.mono ?_; rintro e w' ⟨rfl, rfl⟩) | (refine wpList_value rfl (.agg (spotC x).toArray) (exec_build_spot rfl x hx rfl rfl rfl _) ?_) | (refine wpList_load_blk rfl _ _ rfl w.heap.size 0 rfl 36 (adrC x.v6 x.b) (adrC x.v6 x.b) _ HB.out (by simp) Try.underlying36 rfl HAZ.out ?_))
      refine HF.out.mono ?_; rintro e w2 ⟨rfl, hf2, hm2⟩
      have HT2 := Lib.hid (HT1.out.find HMEM.out ⟨_, _, hf2⟩ hm2)
      have HM2 : Hid (Mod f w w2) := Lib.hid ((HM.out.mono fun x hx => hx.elim).trans hm2 fun k hk => .inl (by rw [show k = vbo v from hk]; exact (HT1.out.sub _ _ HI.out.own).1))
      have HS2 : Hid (w.heap.size ≤ w2.heap.size) := Lib.hid (Nat.le_trans HM.out.size hm2.size)
      clear hf2 hm2
      go_wp2
      go_ret2
      exact ⟨_, _, rfl, ⟨HS2.out, Nat.le_refl _⟩, Row.nil _ _ _ _, HT2.out.mono fun k hk hl => ⟨hk.imp (fun x => x) (fun x => Nat.le_trans HM.out.size x), hl⟩, HM2.out⟩
    | some i =>
      have hil := placeR_lt hp
      have hr : rs[i]? = some rs[i] := List.getElem?_eq_getElem hil
      have hnx : nextT vs v x = some rs[i].next := by unfold nextT; rw [hv, Option.bind_some, hp, Option.map_some, getD_get rs i hil]
      rw [hp] at HF
      rw [hnx]
      have HR := Lib.hid hr
      obtain ⟨r, hre⟩ : ∃ r, r = rs[i] := ⟨_, rfl⟩
      rw [← hre] at HR ⊢
      clear hv hnx hr hp
      have hform := HI.out.rows.row.form
      obtain ⟨ad, cp, rfl, hnc, hcm, hg⟩ := hform
      obtain ⟨g0, rfl, hgo, hgl, _⟩ := hg (by omega)
      unfold maxLen at hcm
      have HGO := Lib.hid hgo
      clear hgo
      have hin : i < rs.length := hil
      obtain ⟨n, hn⟩ : ∃ n, n = rs.length := ⟨_, rfl⟩
      rw [← hn] at hin hnc HI HF
      have HL := Lib.hid hn
      clear hn hre
      go_enter Try.func10, Try.ntmps10
      go_wp2_with (first | (go_at_call 22; refine HO.out.mono ?_; rintro e w' ⟨rfl, rfl⟩) | (refine wpList_value rfl (.agg (spotC x).toArray) (exec_build_spot rfl x hx rfl rfl rfl _) ?_) | (refine wpList_load_blk rfl _ _ rfl w.heap.size 0 rfl 36 (adrC x.v6 x.b) (adrC x.v6 x.b) _ HB.out (by simp) Try.underlying36 rfl HAZ.out ?_))
      refine HF.out.mono ?_; rintro e w2 ⟨rfl, hf2, hm2⟩
      have HT2 := Lib.hid (HT1.out.find HMEM.out ⟨_, _, hf2⟩ hm2)
      have HM2 : Hid (Mod f w w2) := Lib.hid ((HM.out.mono fun x hx => hx.elim).trans hm2 fun k hk => .inl (by rw [show k = vbo v from hk]; exact (HT1.out.sub _ _ HI.out.own).1))
      have HS2 : Hid (w.heap.size ≤ w2.heap.size) := Lib.hid (Nat.le_trans HM.out.size hm2.size)
      have c0 := hf2.rowsAt
      have HO2 := Lib.hid (hf2.rows.ok r (List.mem_of_getElem? HR.out))
      have cN : w2.cell? ⟨g0, i * 20 + 19, none⟩ = some (sv i) := hf2.rows.rowAt' HR.out 19 _ (rowC_19 _ _ _ _ _ HO2.out.1)
      have HN := Lib.hid (hf2.rows.next i r HR.out)
      have HNX := Lib.hid (goodT_next hf2.good (List.mem_of_getElem? HR.out))
      clear hf2 hm2
      go_wp2_with fail
      refine (cloneI_any (sv i) r.next.length (ints r.next) _ HN.out.reads (by simp [ints]) (ints_one _) (by have := HNX.out; omega)).mono ?_; rintro e w3 ⟨u, rfl, hu, hm3⟩
      have HU := Lib.hid hu
      have HM3 := Lib.hid hm3
      clear hu hm3 c0 cN
      go_wp2
      go_ret2
      exact ⟨_, w2.heap.size, rfl, ⟨HS2.out, HM3.out.size⟩, HU.out, (HT2.out.mono (f' := fun k => (f k ∨ w.heap.size ≤ k) ∧ k < w2.heap.size) fun k hk hl => ⟨hk.imp (fun x => x) (fun x => Nat.le_trans HM.out.size x), hl⟩).keep HM3.out fun k _ f => f, HM2.out.trans HM3.out fun k f => f.elim⟩
end Go.Proofs.Ytegjamjognpdkaa
namespace Go.Proofs.Ytegjamjognpdkaa
open Go.RowKit
set_option linter.unusedVariables false
set_option linter.unusedSimpArgs false
/-- what Install tells -/
def instC (vs : List (Int × List TRow)) (now v : Int) (l : List TRow) : Int :=
  if goodT l = false then 2 else if (hasV vs v).isSome then 9 else if aheadB now v then 11 else if 8 ≤ vs.length then 7 else 0
/-- which versions there are behind it -/
def instV (vs : List (Int × List TRow)) (now v : Int) (l : List TRow) : List (Int × List TRow) := if instC vs now v l = 0 then vs ++ [(v, l)] else vs
theorem mput_new {vs : List (Int × List TRow)} {vbo : Int → Nat} {v : Int} (h : hasV vs v = none) (u : Value) : mput (verMap vs vbo) v u = verMap vs vbo ++ [(v, u)] := by
  induction vs with
  | nil => rfl
  | cons p vs ih =>
    unfold hasV at h
    rw [List.find?_cons] at h
    by_cases e : p.1 = v
    · simp [e] at h
    · have hb : (p.1 == v) = false := by simp [e]
      rw [hb] at h
      have := ih h
      unfold verMap at this ⊢
      simp [mput, e, this]
theorem neq_ver (vb : Nat) (w : World) : (binOp .neq 57 (.pointer (some ⟨vb, 0, none⟩)) (.pointer none)).run Try.prog w = .ok (.bool true) w := by kernel_rfl
theorem exec_build_ver {ev : Operand → Value} {op : Oper} {x : Operand} (ho : op.op = .build 70 #[(0, x)]) (ad : Option Addr) (n cp : Nat) (ex : ev x = .slice ad n cp) (w : World) :
    (execOp ev op).run Try.prog w = .ok (.value (.agg (verC (.slice ad n cp) 0 0 (.map none)).toArray)) w := by
  simp [execOp, ho, ex, Instr.build, Sem.run_bind, Try.zeroValue70, run_underlying Try.underlying70, Instr.fill, Result.andThen, Value.cells, verC, Try.sizeOf22]
set_option maxRecDepth 100000 in
set_option maxHeartbeats 4000000 in
theorem Install_any {w : World} {f : Nat → Prop} {tb : Nat} {now : Int} {vs : List (Int × List TRow)} (h : TabAt w f tb now vs) (h0 : 0 ≤ now) (h1 : now ≤ 4294967296) (v : Int) (lv : Value) (l : List TRow) (sv : Nat → Value) (hl : RowsAt w lv l sv) (hn : vs.length < 1000) :
    Calls Try.prog 8 #[.pointer (some ⟨tb, 0, none⟩), .int .u32 v, lv] w fun e w' => e = .returned (.int .i64 (instC vs now v l)) ∧ TabAt w' (fun k => f k ∨ w.heap.size ≤ k) tb now (instV vs now v l) ∧ Mod f w w' := by
  have HT := Lib.hid h
  have HL := Lib.hid hl
  have hnot : ∀ (x : Bool) (w : World), (Op.unary .not (.bool x)).run Try.prog w = .ok (.bool (!x)) w := fun _ _ => rfl
  clear h hl
  have no : ∀ (c : Int) (w2 : World), instC vs now v l = c → c ≠ 0 → Mod (fun _ => False) w w2 → Ending.returned (.int .i64 c) = Ending.returned (.int .i64 (instC vs now v l)) ∧ TabAt w2 (fun k => f k ∨ w.heap.size ≤ k) tb now (instV vs now v l) ∧ Mod f w w2 := by
    intro c w2 hc hc0 hm
    have e : instV vs now v l = vs := by unfold instV; rw [hc, if_neg hc0]
    rw [hc, e]
    exact ⟨rfl, (HT.out.keep hm fun k _ f => f).mono fun k hk _ => .inl hk, hm.mono fun _ f => f.elim⟩
  have NO := Lib.hid no
  clear no
  go_enter Try.func8, Try.ntmps8
  go_wp2_with fail
  refine (good_any lv l sv _ HL.out).mono ?_; rintro e w1 ⟨rfl, hm1⟩
  have HM1 := Lib.hid hm1
  clear hm1
  cases hg : goodT l with
  | false =>
    go_wp2
    go_ret
    exact NO.out _ _ (by unfold instC; rw [if_pos hg]) (by decide) HM1.out
  | true =>
    obtain ⟨mb, vbo, g, hin⟩ := HT.out.keep HM1.out fun k _ f => f
    have HI := Lib.hid hin
    have c0 := hin.tab.cell (j := 0) rfl
    have hlk := run_lookup_mp Try.underlying48 Try.underlying28 (fun w => (by kernel_rfl : (zeroValue 57).run Try.prog w = .ok (.pointer none) w)) hin.map v false
    rw [mget_vs] at hlk
    have HG := Lib.hid hg
    clear hin hg
    cases hv : hasV vs v with
    | some rs =>
      rw [hv] at hlk
      simp only [Bool.false_eq_true, if_false, Option.map_some, Option.getD_some, verPtr] at hlk
      have hne := neq_ver (vbo v)
      have HV := Lib.hid hv
      clear hv
      go_wp2
      go_ret
      exact NO.out _ _ (by unfold instC; rw [if_neg (by rw [HG.out]; decide), if_pos (by rw [HV.out]; rfl)]) (by decide) HM1.out
    | none =>
      rw [hv] at hlk
      simp only [Bool.false_eq_true, if_false, Option.map_none, Option.getD_none] at hlk
      have HV := Lib.hid hv
      have hll := run_len_mp (P := Try.prog) (ty := 3) Try.underlying48 HI.out.map
      have hvl : (verMap vs vbo).length = vs.length := by unfold verMap; simp
      rw [hvl] at hll
      clear hv hvl
      go_wp2_with fail
      refine (ahead_any HI.out.tab h0 h1 v).mono ?_; rintro e w2 ⟨rfl, rfl⟩
      cases ha : aheadB now v with
      | true =>
        have HA := Lib.hid ha
        clear ha
        go_wp2
        go_ret
        exact NO.out _ _ (by unfold instC; rw [if_neg (by rw [HG.out]; decide), if_neg (by rw [HV.out]; decide), if_pos HA.out]) (by decide) HM1.out
      | false =>
        have HA := Lib.hid ha
        clear ha
        by_cases h8 : 8 ≤ vs.length
        · have hd : decide ((8 : Int) ≤ (vs.length : Int)) = true := decide_eq_true (by omega)
          go_wp2
          go_ret
          exact NO.out _ _ (by unfold instC; rw [if_neg (by rw [HG.out]; decide), if_neg (by rw [HV.out]; decide), if_neg (by rw [HA.out]; decide), if_pos h8]) (by decide) HM1.out
        · have hd : decide ((8 : Int) ≤ (vs.length : Int)) = false := decide_eq_false (by omega)
          have HC : Hid (instC vs now v l = 0) := Lib.hid (by unfold instC; rw [if_neg (by rw [HG.out]; decide), if_neg (by rw [HV.out]; decide), if_neg (by rw [HA.out]; decide), if_neg h8])
          go_wp2_with fail
          clear hd h8 hll hlk
          refine wp_region_plan [9] [(0, 0), (1, 0), (2, 0), (3, 1), (4, 0), (5, 0), (6, 2), (7, 0), (8, 2), (9, 3)] (fun w' : World => w'.cell? ⟨tb, 0, none⟩ = some (.map (some mb))) (by kernel_rfl) (by kernel_rfl) (fun d _ _ _ _ h => by cases d <;> exact h) ?_
          have hdr : Mod (fun _ => False) w2 w2.drew := (Mod.refl _ _).drew
          have c1 := hdr.cell (fun f => f) c0
          replace HI := Lib.hid (HI.out.keep hdr fun k _ f => f)
          replace HM1 := Lib.hid HM1.out.drew
          obtain ⟨w1, hw1⟩ : ∃ w1, w1 = w2.drew := ⟨_, rfl⟩
          rw [← hw1] at HI HM1 c1
          try rw [← hw1]
          clear c0 hdr hw1
          have HL1 := Lib.hid (HL.out.keep HM1.out)
          have HTL := Lib.hid HI.out.tab.lt
          repeat (first | (refine plan_skip rfl rfl ?_; simp only [List.getElem_toArray, List.getElem_cons_succ, List.getElem_cons_zero, Act.put, List.setIfInBounds_toArray, List.set_cons_zero, List.set_cons_succ]) | (refine plan_pass2 rfl rfl ?_; simp only [List.getElem_toArray, List.getElem_cons_succ, List.getElem_cons_zero, Act.put, List.setIfInBounds_toArray, List.set_cons_zero, List.set_cons_succ]) | (refine plan_pass3 rfl rfl ?_; simp only [List.getElem_toArray, List.getElem_cons_succ, List.getElem_cons_zero, Act.put, List.setIfInBounds_toArray, List.set_cons_zero, List.set_cons_succ]) | (refine plan_take (v := ?_) rfl rfl ?_ ?_; rotate_left; (focus (intro w0; go_simp; try with_reducible rfl)); simp only [List.getElem_toArray, List.getElem_cons_succ, List.getElem_cons_zero, Act.put, List.setIfInBounds_toArray, List.set_cons_zero, List.set_cons_succ]) | (refine plan_held (v := ?_) rfl rfl c1 ?_ ?_; rotate_left; (focus (intro w0 hSw; (try dsimp only at hSw); go_split_ands; go_simp; try with_reducible rfl)); simp only [List.getElem_toArray, List.getElem_cons_succ, List.getElem_cons_zero, Act.put, List.setIfInBounds_toArray, List.set_cons_zero, List.set_cons_succ])  | (refine plan_skip1 rfl rfl c1 ?_; simp only [List.getElem_toArray, List.getElem_cons_succ, List.getElem_cons_zero, Act.put, List.setIfInBounds_toArray, List.set_cons_zero, List.set_cons_succ]))
          (refine plan_do rfl rfl fun K hK => ?_; try simp only [List.getElem_toArray, List.getElem_cons_succ, List.getElem_cons_zero])
          go_simp
          refine (own_any lv l sv _ HL1.out (goodT_le HG.out) (fun r hr => goodT_next HG.out hr)).mono ?_; rintro e w3 ⟨rv, sv', rfl, hr, hm2⟩
          have c2 := hm2.cell (fun f => f) c1
          obtain ⟨ad, cp, erv, _⟩ := hr.row.form
          obtain ⟨n, hln⟩ : ∃ n, n = l.length := ⟨_, rfl⟩
          rw [← hln] at erv
          subst erv
          have HR2 := Lib.hid hr.under
          have HM2 := Lib.hid hm2
          refine hK _ _ c2 ?_
          clear hK K hr hm2 hln c1
          try simp only [List.getElem_toArray, List.getElem_cons_succ, List.getElem_cons_zero, Act.put, List.setIfInBounds_toArray, List.set_cons_zero, List.set_cons_succ]
          refine plan_take (v := .agg (verC (.slice ad n cp) 0 0 (.map none)).toArray) rfl rfl (fun w0 => exec_build_ver rfl ad n cp rfl w0) ?_
          try simp only [List.getElem_toArray, List.getElem_cons_succ, List.getElem_cons_zero, Act.put, List.setIfInBounds_toArray, List.set_cons_zero, List.set_cons_succ]
          (refine plan_do rfl rfl fun K hK => ?_; try simp only [List.getElem_toArray, List.getElem_cons_succ, List.getElem_cons_zero])
          go_simp
          have HB3 := Lib.hid (Blk.new w3 70 (verC (.slice ad n cp) 0 0 (.map none)))
          have HM3 : Hid (Mod (fun _ => False) w3 (w3.alloc (.cells (verC (.slice ad n cp) 0 0 (.map none)).toArray 70 (0, 0)))) := Lib.hid ((Mod.refl _ _).alloc _)
          refine hK _ _ (HM3.out.cell (fun f => f) c2) ?_
          clear hK K c2
          try simp only [List.getElem_toArray, List.getElem_cons_succ, List.getElem_cons_zero, Act.put, List.setIfInBounds_toArray, List.set_cons_zero, List.set_cons_succ]
          (refine plan_end rfl rfl rfl fun K hK => ?_; (try simp only [List.getElem_toArray, List.getElem_cons_succ, List.getElem_cons_zero]))
          have HMM : Hid (Mod (fun _ => False) w1 (w3.alloc (.cells (verC (.slice ad n cp) 0 0 (.map none)).toArray 70 (0, 0)))) := Lib.hid (HM2.out.trans HM3.out fun _ f => f.elim)
          refine wp_update_mp (v := .pointer (some ⟨w3.heap.size, 0, none⟩)) Try.underlying48 Try.underlying28 rfl rfl rfl rfl (HI.out.map.keep HMM.out fun f => f) ?_
          intro w4 hp4 hm4
          rw [mput_new HV.out] at hp4
          have HE := Lib.hid (HI.out.add HV.out HMM.out ⟨_, sv', ⟨(HR2.out.keep HM3.out fun k _ f => f).mono fun k hk => ⟨hk.1, by omega⟩, .inl HB3.out, HM2.out.size, HG.out⟩⟩ hp4 hm4)
          have HM4 : Hid (Mod f w w4) := Lib.hid (((HM1.out.trans HMM.out fun _ f => f.elim).mono fun _ f => f.elim).trans hm4 fun k hk => .inl (by rw [show k = mb from hk]; exact HI.out.fmb))
          refine hK _ _ ?_
          clear hK K hp4 hm4
          try simp only [List.getElem_toArray, List.getElem_cons_succ, List.getElem_cons_zero, Act.put, List.setIfInBounds_toArray, List.set_cons_zero, List.set_cons_succ]
          repeat (first | (refine plan_skip rfl rfl ?_; simp only [List.getElem_toArray, List.getElem_cons_succ, List.getElem_cons_zero, Act.put, List.setIfInBounds_toArray, List.set_cons_zero, List.set_cons_succ]) | (refine plan_pass2 rfl rfl ?_; simp only [List.getElem_toArray, List.getElem_cons_succ, List.getElem_cons_zero, Act.put, List.setIfInBounds_toArray, List.set_cons_zero, List.set_cons_succ]) | (refine plan_pass3 rfl rfl ?_; simp only [List.getElem_toArray, List.getElem_cons_succ, List.getElem_cons_zero, Act.put, List.setIfInBounds_toArray, List.set_cons_zero, List.set_cons_succ]) | (refine plan_take (v := ?_) rfl rfl ?_ ?_; rotate_left; (focus (intro w0; go_simp; try with_reducible rfl)); simp only [List.getElem_toArray, List.getElem_cons_succ, List.getElem_cons_zero, Act.put, List.setIfInBounds_toArray, List.set_cons_zero, List.set_cons_succ]) | fail )
          refine plan_nil ?_
          go_wp2
          go_ret
          have e : instV vs now v l = vs ++ [(v, l)] := by unfold instV; rw [if_pos HC.out]
          rw [HC.out, e]
          exact ⟨rfl, HE.out.mono fun k hk _ => hk.imp (fun x => x) (fun x => Nat.le_trans HM1.out.size x), HM4.out⟩
end Go.Proofs.Ytegjamjognpdkaa
namespace Go.Proofs.Ytegjamjognpdkaa
open Go.RowKit
set_option linter.unusedVariables false
set_option linter.unusedSimpArgs false
/-- a row is a row still when another one, perhaps in the same block, has been written to -/
theorem Row.also {w w' : World} {f f' : Nat → Prop} {e : TypeId} {sz n n' : Nat} {v v' : Value} {xs xs' ys' : List Value} (h : Row w f e sz v n xs) (h0 : Row w f' e sz v' n' xs') (h1 : Row w' f' e sz v' n' ys') (hm : Mod (fun k => v'.ownBlock = some k) w w') :
    ∃ ys, Row w' f e sz v n ys := by
  by_cases hb : ∃ g, v.ownBlock = some g ∧ v'.ownBlock = some g
  · obtain ⟨g, e1, e2⟩ := hb
    obtain ⟨⟨hl, h⟩, hf⟩ := h
    rcases h with ⟨rfl, rfl⟩ | ⟨g1, cap, cur, rfl, hb, hg, hn, hc, hs, ht⟩
    · exact ⟨[], Row.nil _ _ _ _⟩
    · simp [Value.ownBlock] at e1
      subst e1
      rcases h0.1.2 with ⟨rfl, _⟩ | ⟨g2, cap2, cur2, rfl, _, hg2, _, _, hs2, _⟩
      · simp [Value.ownBlock] at e2
      · simp [Value.ownBlock] at e2
        subst e2
        rcases h1.1.2 with ⟨e3, _⟩ | ⟨g3, cap3, cur3, e3, _, hg3, _, _, hs3, _⟩
        · cases e3
        · injection e3 with e4 e5 e6
          injection e4 with e7
          injection e7 with e8
          subst e8
          subst e6
          rw [hg2] at hg
          injection hg with hg
          injection hg with hg
          subst hg
          have hss : cap * sz = cap2 * sz := by omega
          exact ⟨cur3.toList.take (n * sz), ⟨by rw [List.length_take, Array.length_toList, hs3, ← hss]; exact Nat.min_eq_left (Nat.mul_le_mul_right sz hn), .inr ⟨g2, cap, cur3, rfl, hb, hg3, hn, hc, by omega, rfl⟩⟩, hf⟩
  · refine ⟨xs, ?_⟩
    exact (show Row w (fun k => v.ownBlock = some k) e sz v n xs from ⟨h.1, fun g hg => hg⟩).keep hm (fun k h1 h2 => hb ⟨k, h1, h2⟩) |>.mono fun k hk => h.2 k hk
structure RowsWk (w : World) (f : Nat → Prop) (v : Value) (rs : List TRow) (sv : Nat → Value) : Prop where
  row : Row w f 38 20 v rs.length (cellsR sv 0 rs)
  ok : rowsOk rs
  next : ∀ i r, rs[i]? = some r → ∃ ys, Row w f 3 1 (sv i) r.next.length ys
theorem RowsOwn.wk {w : World} {f : Nat → Prop} {v : Value} {rs : List TRow} {sv : Nat → Value} (h : RowsOwn w f v rs sv) : RowsWk w f v rs sv := ⟨h.row, h.ok, fun i r hr => ⟨_, h.next i r hr⟩⟩
theorem RowsWk.keep {w w' : World} {F f : Nat → Prop} {v : Value} {rs : List TRow} {sv : Nat → Value} (h : RowsWk w f v rs sv) (hm : Mod F w w') (hd : ∀ k, f k → ¬ F k) : RowsWk w' f v rs sv :=
  ⟨h.row.keep hm hd, h.ok, fun i r hr => (h.next i r hr).imp fun ys hy => hy.keep hm hd⟩
/-- one of the next ones has been written to -/
theorem RowsWk.wrote {w w' : World} {f : Nat → Prop} {v : Value} {rs : List TRow} {sv : Nat → Value} (h : RowsWk w f v rs sv) {n : Nat} {u : Value} {xs ys : List Value} (h0 : Row w f 3 1 u n xs) (h1 : Row w' f 3 1 u n ys) (hm : Mod (fun k => u.ownBlock = some k) w w') : RowsWk w' f v rs sv :=
  ⟨h.row.beside h0 (by decide) hm, h.ok, fun i r hr => by
    obtain ⟨zs, hz⟩ := h.next i r hr
    exact hz.also h0 h1 hm⟩
theorem RowsWk.rowAt {w : World} {f : Nat → Prop} {g n cp j : Nat} {rs : List TRow} {sv : Nat → Value} {r : TRow} (h : RowsWk w f (.slice (some ⟨g, 0, none⟩) n cp) rs sv) (hj : rs[j]? = some r) : w.rangeAt g (j * 20) (r.c (sv j)) := by
  obtain ⟨ad, cap, e, _, _, h3⟩ := h.row.form
  injection e with e1 e2 e3
  obtain ⟨g', e4, _, _, hc⟩ := h3 (by have := (List.getElem?_eq_some_iff.1 hj).1; omega)
  rw [← e1] at e4
  injection e4 with e5
  injection e5 with e6
  subst e6
  have := rows_get (o := 0) (fun i u hu => by rw [Nat.zero_add]; exact hc i u hu) h.ok hj
  rwa [Nat.zero_add] at this
end Go.Proofs.Ytegjamjognpdkaa
namespace Go.Proofs.Ytegjamjognpdkaa
open Go.RowKit
set_option linter.unusedVariables false
set_option linter.unusedSimpArgs false
theorem wp_store_row1 {P : Program} {w : World} {o : Oper} {a : Act} {K : Act → World → Prop} {Q : Exit → Act → World → Prop} (ty : TypeId) (x y : Operand) (ho : o.op = .store ty x y) {f : Nat → Prop} {e : TypeId} {sz n : Nat} {v : Value} {xs : List Value} (hr : Row w f e sz v n xs) (g off : Nat) (u : Value)
    (hx : a.eval x = .pointer (some ⟨g, off, none⟩)) (hy : a.eval y = u) (hg : v.ownBlock = some g) (hfit : off < xs.length) (hi : (P.info? ty).map (·.size) = some 1) (h1 : u.oneCell' = true)
    (h : ∀ w', Hid (Row w' f e sz v n (xs.set off u)) → Hid (Mod (fun k => k = g) w w') → K (a.put o.dst undef) w') : o.wp P a w K Q := by
  obtain ⟨w', hrun, h2, h3⟩ := run_storeAt_row1 (P := P) hr ty g off u hg hfit hi h1
  unfold Oper.wp execOp
  simp only [ho, hx, hy, Sem.run_bind, Sem.run_pure, hrun, Result.andThen_ok]
  exact h _ (Lib.hid h2) (Lib.hid h3)
structure OwnK (rs : List TRow) (tb : Nat) (fL fM fX : Nat → Prop) (lv mv xv : Value) (svl svm svx : Nat → Value) (s : Nat) (w wr : World) : Prop where
  l : RowsOwn wr fL lv rs svl
  m : RowsWk wr fM mv rs svm
  x : RowsWk wr fX xv rs svx
  t : ∃ fT, TabAt wr fT tb 0 [(1, rs)] ∧ ∀ k, fT k → ((¬ fL k ∧ ¬ fM k ∧ ¬ fX k) ∧ w.heap.size ≤ k) ∧ k < s
  ws : w.heap.size ≤ s
  sz : s ≤ wr.heap.size
  mod : Mod (fun _ => False) w wr
  dl : ∀ k, fL k → ¬ fM k ∧ ¬ fX k ∧ k < s
  dm : ∀ k, fM k → ¬ fX k ∧ w.heap.size ≤ k ∧ k < s
  dx : ∀ k, fX k → w.heap.size ≤ k ∧ k < s
section
variable {rs : List TRow} {tb : Nat} {fL fM fX : Nat → Prop} {lv mv xv : Value} {svl svm svx : Nat → Value} {s : Nat} {w wr w' : World}
theorem OwnK.keep (h : OwnK rs tb fL fM fX lv mv xv svl svm svx s w wr) (hm : Mod (fun k => s ≤ k) wr w') : OwnK rs tb fL fM fX lv mv xv svl svm svx s w w' := by
  obtain ⟨fT, ht, hd⟩ := h.t
  have hs := h.ws
  exact ⟨h.l.keep hm fun k hk e => by have := (h.dl k hk).2.2; omega, h.m.keep hm fun k hk e => by have := (h.dm k hk).2.2; omega, h.x.keep hm fun k hk e => by have := (h.dx k hk).2; omega,
    ⟨fT, ht.keep hm fun k hk e => by have := (hd k hk).2; omega, hd⟩, h.ws, Nat.le_trans h.sz hm.size, h.mod.trans hm fun k hk => .inr (by have : s ≤ k := hk; omega), h.dl, h.dm, h.dx⟩
theorem OwnK.next {fT : Nat → Prop} {hs : Nat} (h : OwnK rs tb fL fM fX lv mv xv svl svm svx s w wr) (hd : ∀ k, fT k → ((¬ fL k ∧ ¬ fM k ∧ ¬ fX k) ∧ w.heap.size ≤ k) ∧ k < s)
    (h1 : wr.heap.size ≤ hs) (h2 : hs ≤ w'.heap.size) (ht : TabAt w' (fun k => (fT k ∨ wr.heap.size ≤ k) ∧ k < hs) tb 0 [(1, rs)]) (hm : Mod fT wr w') : OwnK rs tb fL fM fX lv mv xv svl svm svx hs w w' := by
  have hsz := h.sz
  have hws := h.ws
  refine ⟨h.l.keep hm fun k hk e => (hd k e).1.1.1 hk, h.m.keep hm fun k hk e => (hd k e).1.1.2.1 hk, h.x.keep hm fun k hk e => (hd k e).1.1.2.2 hk, ⟨_, ht, ?_⟩, by omega, h2, h.mod.trans hm fun k hk => .inr (hd k hk).1.2, ?_, ?_, ?_⟩
  · intro k hk
    refine ⟨?_, hk.2⟩
    rcases hk.1 with x | x
    · exact (hd k x).1
    · exact ⟨⟨fun y => by have := (h.dl k y).2.2; omega, fun y => by have := (h.dm k y).2.2; omega, fun y => by have := (h.dx k y).2; omega⟩, by omega⟩
  · intro k hk
    exact ⟨(h.dl k hk).1, (h.dl k hk).2.1, by have := (h.dl k hk).2.2; omega⟩
  · intro k hk
    exact ⟨(h.dm k hk).1, (h.dm k hk).2.1, by have := (h.dm k hk).2.2; omega⟩
  · intro k hk
    exact ⟨(h.dx k hk).1, by have := (h.dx k hk).2; omega⟩
theorem OwnK.wroteM {n : Nat} {u : Value} {xs ys : List Value} {g : Nat} (h : OwnK rs tb fL fM fX lv mv xv svl svm svx s w wr) (h0 : Row wr fM 3 1 u n xs) (hg : u.ownBlock = some g) (h1 : Row w' fM 3 1 u n ys) (hm : Mod (fun k => k = g) wr w') : OwnK rs tb fL fM fX lv mv xv svl svm svx s w w' := by
  have hf := h0.2 g hg
  have hgd := h.dm g hf
  obtain ⟨fT, ht, hd⟩ := h.t
  refine ⟨h.l.keep hm fun k hk e => (h.dl k hk).1 (by rw [show k = g from e]; exact hf), h.m.wrote h0 h1 (hm.mono fun k hk => .inl (by rw [show k = g from hk]; exact hg)), h.x.keep hm fun k hk e => hgd.1 (by rw [← show k = g from e]; exact hk), ⟨fT, ht.keep hm fun k hk e => (hd k hk).1.1.2.1 (by rw [show k = g from e]; exact hf), hd⟩, h.ws, Nat.le_trans h.sz hm.size, h.mod.trans hm fun k hk => .inr (by rw [show k = g from hk]; exact hgd.2.1), h.dl, h.dm, h.dx⟩
theorem OwnK.wroteX {n : Nat} {u : Value} {xs ys : List Value} {g : Nat} (h : OwnK rs tb fL fM fX lv mv xv svl svm svx s w wr) (h0 : Row wr fX 3 1 u n xs) (hg : u.ownBlock = some g) (h1 : Row w' fX 3 1 u n ys) (hm : Mod (fun k => k = g) wr w') : OwnK rs tb fL fM fX lv mv xv svl svm svx s w w' := by
  have hf := h0.2 g hg
  have hgd := h.dx g hf
  obtain ⟨fT, ht, hd⟩ := h.t
  refine ⟨h.l.keep hm fun k hk e => (h.dl k hk).2.1 (by rw [show k = g from e]; exact hf), h.m.keep hm fun k hk e => (h.dm k hk).1 (by rw [show k = g from e]; exact hf), h.x.wrote h0 h1 (hm.mono fun k hk => .inl (by rw [show k = g from hk]; exact hg)), ⟨fT, ht.keep hm fun k hk e => (hd k hk).1.1.2.2 (by rw [show k = g from e]; exact hf), hd⟩, h.ws, Nat.le_trans h.sz hm.size, h.mod.trans hm fun k hk => .inr (by rw [show k = g from hk]; exact hgd.1), h.dl, h.dm, h.dx⟩
end
/-- what ref.Of makes of cut rows stays as it is when it is cut again -/
theorem stepOf_mem {out : List TRow} {r q : TRow} (h : q ∈ stepOf out r) : q ∈ out ∨ q = r := by
  unfold stepOf at h
  split at h
  · rw [List.mem_append, List.mem_cons] at h
    rcases h with h | h | h
    · exact .inl (List.mem_of_mem_take h)
    · exact .inr h
    · exact .inl (List.mem_of_mem_drop h)
  · exact .inl h
theorem ofT_mem {q : TRow} : ∀ (l out : List TRow), q ∈ l.foldl stepOf out → q ∈ out ∨ q ∈ l
  | [], out, h => .inl h
  | r :: l, out, h => by
    rcases ofT_mem l _ h with h | h
    · rcases stepOf_mem h with h | h
      · exact .inl h
      · exact .inr (h ▸ List.mem_cons_self)
    · exact .inr (List.mem_cons_of_mem _ h)
theorem cut_len (rs : List TRow) : (cutT rs).length ≤ 6 := by
  unfold cutT
  rw [List.length_map, List.length_take]
  omega
theorem Sorted.none : Sorted [] := ⟨.nil, fun r hr => (by cases hr), fun r hr => (by cases hr)⟩
theorem of_cut_len (rs : List TRow) (h : ∀ r ∈ cutT rs, r.b.length = 16) : (ofT (cutT rs)).length ≤ 6 := by
  have := (ofT_sorted (cutT rs) [] Sorted.none h).2
  have h2 := cut_len rs
  simp at this
  unfold ofT
  omega
theorem of_cut_cut (rs : List TRow) (h : ∀ r ∈ cutT rs, r.b.length = 16) : cutT (ofT (cutT rs)) = ofT (cutT rs) := by
  have hl := of_cut_len rs h
  unfold cutT
  rw [show (ofT ((rs.take 6).map cutN)).take 6 = ofT ((rs.take 6).map cutN) from List.take_of_length_le hl]
  refine (List.map_congr_left fun r hr => ?_).trans (List.map_id _)
  rcases ofT_mem _ _ hr with h | h
  · cases h
  · obtain ⟨q, _, rfl⟩ := List.mem_map.1 h
    simp [cutN, List.take_take]
end Go.Proofs.Ytegjamjognpdkaa
namespace Go.Proofs.Ytegjamjognpdkaa
open Go.RowKit
set_option linter.unusedVariables false
set_option linter.unusedSectionVars false
namespace R
variable [vl : Val]
section
variable {P : Program} {w : World} {r : Reach} {b : Nat} {t : TypeId} {v : Value}
theorem ok_one (h : Cell.okWide P w r b t v) : v.oneCell' = true := by
  unfold Cell.okWide at h
  split at h <;> first
    | rfl
    | (unfold Cell.ok at h; split at h <;> first | rfl | exact h.elim)
theorem ok_leaf {d : TypeDesc} (hd : P.underlying t = some d) (hn : (match d with | .struct _ | .array _ _ => false | _ => true) = true) (h : Value.okWide P w r b t v) : v.oneCell' = true := by
  unfold Value.okWide at h
  rw [hd] at h
  cases d <;> first | exact ok_one h | cases hn
theorem ok_agg {d : TypeDesc} (hd : P.underlying t = some d) (hn : (match d with | .struct _ | .array _ _ => true | _ => false) = true) (h : Value.okWide P w r b t v) :
    ∃ l : List Value, v = .agg l.toArray ∧ l.length = P.cellsOf t ∧ ∀ c ∈ l, c.oneCell' = true := by
  unfold Value.okWide at h
  rw [hd] at h
  have key : (∃ cs, v = .agg cs ∧ cs.size = P.cellsOf t ∧ Row.okWide P w r b t cs) → ∃ l : List Value, v = .agg l.toArray ∧ l.length = P.cellsOf t ∧ ∀ c ∈ l, c.oneCell' = true := by
    rintro ⟨⟨l⟩, rfl, h1, ts, _, _, h2⟩
    refine ⟨l, rfl, by simpa using h1, fun c hc => ?_⟩
    obtain ⟨i, hi⟩ := List.getElem?_of_mem hc
    obtain ⟨u, _, hu⟩ := h2 i c (by simpa using hi)
    exact ok_one hu
  cases d <;> first | exact key h | cases hn
end
end R
end Go.Proofs.Ytegjamjognpdkaa
namespace Go.Proofs.Ytegjamjognpdkaa
open Go.RowKit
set_option maxRecDepth 1000000 in
theorem lives35_any (w : World) : Calls Try.prog 12 #[] w fun e w' => e = .returned (.bool true) ∧ Mod (fun _ => False) w w' :=
  R.runs_eq (E := R.EX extL) (hE := ext_ok) (P := Try.prog) (n := 1000) (k := 100) (us := #[]) (xs := []) (y := .v (.c (.x (.bool true)))) (by kernel_rfl) (by kernel_rfl) (show R.LR _ _ _ from trivial) R.hu_true w
end Go.Proofs.Ytegjamjognpdkaa
namespace Go.Proofs.Ytegjamjognpdkaa
open Go.RowKit
set_option linter.unusedVariables false
set_option linter.unusedSimpArgs false
theorem OwnK.drew {rs : List TRow} {tb : Nat} {fL fM fX : Nat → Prop} {lv mv xv : Value} {svl svm svx : Nat → Value} {s : Nat} {w wr : World} (h : OwnK rs tb fL fM fX lv mv xv svl svm svx s w wr) : OwnK rs tb fL fM fX lv mv xv svl svm svx s w wr.drew := h.keep (Mod.refl _ _).drew
set_option maxRecDepth 100000 in
set_option maxHeartbeats 8000000 in
theorem own_walk (v : Value) (rs0 : List TRow) (sv0 : Nat → Value) (w : World) (h : RowsAt w v rs0 sv0) :
    Calls Try.prog 3 #[v] w fun e w' => e = .returned (.bool true) ∧ Mod (fun _ => False) w w' := by
  have HH := Lib.hid h
  clear h
  go_enter Try.func3, Try.ntmps3
  go_wp2_with fail
  refine (rows_any v rs0 sv0 _ HH.out).mono ?_; rintro e w1 ⟨v1, sv1, rfl, hr1, hm1⟩
  have HR1 := Lib.hid hr1
  have HM1 := Lib.hid hm1
  clear hr1 hm1
  go_wp2_with fail
  refine (of_any v1 (cutT rs0) sv1 _ _ HR1.out (cut_len rs0)).mono ?_; rintro e w2 ⟨lv, svl, rfl, hrl, hm2⟩
  have HB : Hid (∀ r ∈ cutT rs0, r.b.length = 16) := Lib.hid fun r hr => (HR1.out.ok r hr).1
  have HCC := Lib.hid (of_cut_cut rs0 HB.out)
  have HLN := Lib.hid (of_cut_len rs0 HB.out)
  have HGD := Lib.hid (ofT_good (cutT rs0) HB.out (by have := cut_len rs0; omega))
  obtain ⟨rs, hrs⟩ : ∃ rs, rs = ofT (cutT rs0) := ⟨_, rfl⟩
  rw [← hrs] at hrl HCC HLN HGD
  have HR2 : Hid (RowsOwn w2 (fun k => k < w2.heap.size) lv rs svl) := Lib.hid (hrl.under.mono fun k hk => hk.2)
  have HM2 := Lib.hid (HM1.out.trans hm2 fun _ f => f.elim)
  clear hrl hm2 hrs HR1 HM1 HB HH
  go_wp2_with fail
  refine (New_any _).mono ?_; rintro e w3 ⟨tb, rfl, ht3, hm3⟩
  have HT3 := Lib.hid (ht3.mono (f' := fun k => w2.heap.size ≤ k ∧ k < w3.heap.size) fun k hk hl => ⟨hk, hl⟩)
  have HM3 := Lib.hid hm3
  have HR3 := Lib.hid (HR2.out.keep hm3 fun _ _ f => f)
  clear ht3 hm3
  go_wp2_with fail
  refine (rows_any lv rs svl _ HR3.out.at).mono ?_; rintro e w4 ⟨mv, svm, rfl, hr4, hm4⟩
  rw [HCC.out] at hr4
  have HR4 : Hid (RowsOwn w4 (fun k => w3.heap.size ≤ k ∧ k < w4.heap.size) mv rs svm) := Lib.hid hr4.under
  have HM4 := Lib.hid hm4
  have HT4 := Lib.hid (HT3.out.keep hm4 fun _ _ f => f)
  clear hr4 hm4
  go_wp2_with fail
  refine (Install_any HT4.out (by decide) (by decide) 1 mv rs svm HR4.out.at (by decide)).mono ?_; rintro e w5 ⟨rfl, ht5, hm5⟩
  have HIC : Hid (instV [] 0 1 rs = [(1, rs)]) := Lib.hid (by
    have : instC [] 0 1 rs = 0 := by unfold instC; rw [if_neg (by rw [HGD.out]; decide)]; rfl
    unfold instV; rw [if_pos this]; rfl)
  rw [HIC.out] at ht5
  have HT5 := Lib.hid ht5
  have HM5 := Lib.hid hm5
  clear ht5 hm5 HIC
  go_wp2_with fail
  refine (tRows_any HT5.out 1).mono ?_; rintro e w6 ⟨xv, svx, rfl, hr6, hm6⟩
  have HR6 : Hid (RowsOwn w6 (fun k => w5.heap.size ≤ k ∧ k < w6.heap.size) xv rs svx) := Lib.hid hr6.under
  have HM6 := Lib.hid hm6
  clear hr6 hm6
  have z1 := HM2.out.size
  have z3 := HM3.out.size
  have z4 := HM4.out.size
  have z5 := HM5.out.size
  have z6 := HM6.out.size
  have HK : Hid (∃ s, OwnK rs tb (fun k => k < w2.heap.size) (fun k => w3.heap.size ≤ k ∧ k < w4.heap.size) (fun k => w5.heap.size ≤ k ∧ k < w6.heap.size) lv mv xv svl svm svx s w w6) := by
    refine Lib.hid ⟨w6.heap.size, ((((HR3.out.keep HM4.out fun _ _ f => f).keep HM5.out fun k h1 h2 => by omega).keep HM6.out fun _ _ f => f)), ((HR4.out.keep HM5.out fun k h1 h2 => by omega).keep HM6.out fun _ _ f => f).wk, HR6.out.wk, ⟨_, (HT5.out.mono (f' := fun k => ((w2.heap.size ≤ k ∧ k < w3.heap.size) ∨ w4.heap.size ≤ k) ∧ k < w5.heap.size) fun k hk hl => ⟨hk, hl⟩).keep HM6.out fun _ _ f => f, fun k hk => ⟨⟨⟨by omega, by omega, by omega⟩, by omega⟩, by omega⟩⟩, by omega, Nat.le_refl _, (((HM2.out.trans HM3.out fun _ f => f.elim).trans HM4.out fun _ f => f.elim).trans HM5.out fun k hk => .inr (by omega)).trans HM6.out fun _ f => f.elim, fun k hk => ⟨by omega, by omega, by omega⟩, fun k hk => ⟨by omega, by omega, by omega⟩, fun k hk => ⟨by omega, by omega⟩⟩
  obtain ⟨fL, hfL⟩ : ∃ fL : Nat → Prop, fL = fun k => k < w2.heap.size := ⟨_, rfl⟩
  obtain ⟨fM, hfM⟩ : ∃ fM : Nat → Prop, fM = fun k => w3.heap.size ≤ k ∧ k < w4.heap.size := ⟨_, rfl⟩
  obtain ⟨fX, hfX⟩ : ∃ fX : Nat → Prop, fX = fun k => w5.heap.size ≤ k ∧ k < w6.heap.size := ⟨_, rfl⟩
  rw [← hfL, ← hfM, ← hfX] at HK
  clear hfL hfM hfX z1 z3 z4 z5 z6 HR2 HR3 HR4 HR6 HT3 HT4 HT5 HM2 HM3 HM4 HM5 HM6 HCC
  obtain ⟨s0, hk0⟩ := HK.out
  obtain ⟨ad, cl, rfl, hnl, hcl, hgl⟩ := hk0.l.row.form
  obtain ⟨ad', cx, rfl, hnx, hcx, hgx⟩ := hk0.x.row.form
  obtain ⟨ad'', cm, rfl, hnm, hcm, hgm⟩ := hk0.m.row.form
  unfold maxLen at hcl hcx hcm
  obtain ⟨n, hn⟩ : ∃ n, n = rs.length := ⟨_, rfl⟩
  rw [← hn] at HK hnl hgl hnx hgx hnm hgm
  have HL := Lib.hid hn
  have HGL := Lib.hid hgl
  have HGX := Lib.hid hgx
  have HGM := Lib.hid hgm
  clear hk0 hgl hgx hgm
  rw [← hn]
  clear hn
  have HI1 : Hid ((Try.prog.info? 3).map (·.size) = some 1) := Lib.hid (by kernel_rfl)
  go_wp2_with fail
  go_loopw [7] (fun i wr => ∃ j : Nat, j ≤ n ∧ i = .int .i64 (j : Int) ∧ ∃ s, OwnK rs tb fL fM fX (.slice ad n cl) (.slice ad'' n cm) (.slice ad' n cx) svl svm svx s w wr) (fun i _ => n - (intOf i).toNat)
  case atStart => exact ⟨0, Nat.zero_le _, rfl, HK.out⟩
  case round =>
    clear HK
    obtain ⟨j, hj, rfl, s, hk⟩ := hrel
    have HK := Lib.hid hk
    clear hk
    by_cases hlt : j < n
    · obtain ⟨gl, rfl, _, _, _⟩ := HGL.out (by omega)
      obtain ⟨gx, rfl, _, _, _⟩ := HGX.out (by omega)
      obtain ⟨gm, rfl, _, _, _⟩ := HGM.out (by omega)
      clear HGL HGX HGM
      obtain ⟨r, hr⟩ : ∃ r, rs[j]? = some r := ⟨_, List.getElem?_eq_getElem (by have := HL.out; omega)⟩
      have HR := Lib.hid hr
      have HO := Lib.hid (HK.out.l.ok r (List.mem_of_getElem? hr))
      have HNX := Lib.hid (oneT_next (goodT_one HGD.out (List.mem_of_getElem? hr)))
      have HKD := Lib.hid (HK.out.keep (Mod.refl _ _).drew)
      have hra := HKD.out.l.rowAt' hr
      have HA := Lib.hid (show wr.drew.rangeAt gl (j * 20 + 1) (adrC r.v6 r.b) by rw [← rowC_adrs r.vlan r.v6 r.b r.root (svl j) HO.out.1]; exact range_sub hra 1 17)
      have HC : Hid (wr.drew.cell? ⟨gl, j * 20, none⟩ = some (.int .i64 r.vlan) ∧ wr.drew.cell? ⟨gl, j * 20 + 18, none⟩ = some (.int .i64 r.root)) := Lib.hid ⟨hra 0 _ (rowC_0 ..), hra 18 _ (rowC_18 _ _ _ _ _ HO.out.1)⟩
      have HSZ : Hid ((Try.prog.info? 36).map (·.size) = some (adrC r.v6 r.b).length) := Lib.hid (by rw [adrC_len, HO.out.1]; exact adrSz)
      clear hra hr HK
      go_wp2_with fail
      refine wp_region_plan [16] [(0, 0), (1, 0), (2, 0), (3, 0), (4, 0), (5, 1), (6, 0), (7, 0), (8, 0), (9, 0), (10, 1), (11, 0), (12, 0), (13, 0), (14, 0), (15, 1), (16, 3), (17, 0), (18, 0), (19, 0), (20, 0), (21, 0)] (fun w' : World => w'.rangeAt gl (j * 20 + 1) (adrC r.v6 r.b) ∧ w'.cell? ⟨gl, j * 20, none⟩ = some (.int .i64 r.vlan) ∧ w'.cell? ⟨gl, j * 20 + 18, none⟩ = some (.int .i64 r.root)) (by kernel_rfl) (by kernel_rfl) (fun d _ _ _ _ h => by cases d <;> exact h) ?_
      repeat (first | (refine plan_skip rfl rfl ?_; simp only [List.getElem_toArray, List.getElem_cons_succ, List.getElem_cons_zero, Act.put, List.setIfInBounds_toArray, List.set_cons_zero, List.set_cons_succ]) | (refine plan_pass2 rfl rfl ?_; simp only [List.getElem_toArray, List.getElem_cons_succ, List.getElem_cons_zero, Act.put, List.setIfInBounds_toArray, List.set_cons_zero, List.set_cons_succ]) | (refine plan_pass3 rfl rfl ?_; simp only [List.getElem_toArray, List.getElem_cons_succ, List.getElem_cons_zero, Act.put, List.setIfInBounds_toArray, List.set_cons_zero, List.set_cons_succ]) | (refine plan_take (v := ?_) rfl rfl ?_ ?_; rotate_left; (focus (intro w0; go_simp; try with_reducible rfl)); simp only [List.getElem_toArray, List.getElem_cons_succ, List.getElem_cons_zero, Act.put, List.setIfInBounds_toArray, List.set_cons_zero, List.set_cons_succ]) | (refine plan_held (v := ?_) rfl rfl (⟨HA.out, HC.out⟩) ?_ ?_; rotate_left; (focus (intro w0 hSw; (try dsimp only at hSw); go_split_ands; go_simp; try with_reducible rfl)); simp only [List.getElem_toArray, List.getElem_cons_succ, List.getElem_cons_zero, Act.put, List.setIfInBounds_toArray, List.set_cons_zero, List.set_cons_succ])  | (refine plan_skip1 rfl rfl (⟨HA.out, HC.out⟩) ?_; simp only [List.getElem_toArray, List.getElem_cons_succ, List.getElem_cons_zero, Act.put, List.setIfInBounds_toArray, List.set_cons_zero, List.set_cons_succ]))
      (refine plan_held (v := .agg (adrC r.v6 r.b).toArray) rfl rfl (⟨HA.out, HC.out⟩) (fun w0 h0 => exec_load_mid _ _ rfl gl (j * 20 + 1) rfl (adrC r.v6 r.b) _ w0 h0.1 Try.underlying36 rfl HSZ.out) ?_; try simp only [List.getElem_toArray, List.getElem_cons_succ, List.getElem_cons_zero, Act.put, List.setIfInBounds_toArray, List.set_cons_zero, List.set_cons_succ])
      repeat (first | (refine plan_skip rfl rfl ?_; simp only [List.getElem_toArray, List.getElem_cons_succ, List.getElem_cons_zero, Act.put, List.setIfInBounds_toArray, List.set_cons_zero, List.set_cons_succ]) | (refine plan_pass2 rfl rfl ?_; simp only [List.getElem_toArray, List.getElem_cons_succ, List.getElem_cons_zero, Act.put, List.setIfInBounds_toArray, List.set_cons_zero, List.set_cons_succ]) | (refine plan_pass3 rfl rfl ?_; simp only [List.getElem_toArray, List.getElem_cons_succ, List.getElem_cons_zero, Act.put, List.setIfInBounds_toArray, List.set_cons_zero, List.set_cons_succ]) | (refine plan_take (v := ?_) rfl rfl ?_ ?_; rotate_left; (focus (intro w0; go_simp; try with_reducible rfl)); simp only [List.getElem_toArray, List.getElem_cons_succ, List.getElem_cons_zero, Act.put, List.setIfInBounds_toArray, List.set_cons_zero, List.set_cons_succ]) | (refine plan_held (v := ?_) rfl rfl (⟨HA.out, HC.out⟩) ?_ ?_; rotate_left; (focus (intro w0 hSw; (try dsimp only at hSw); go_split_ands; go_simp; try with_reducible rfl)); simp only [List.getElem_toArray, List.getElem_cons_succ, List.getElem_cons_zero, Act.put, List.setIfInBounds_toArray, List.set_cons_zero, List.set_cons_succ])  | (refine plan_skip1 rfl rfl (⟨HA.out, HC.out⟩) ?_; simp only [List.getElem_toArray, List.getElem_cons_succ, List.getElem_cons_zero, Act.put, List.setIfInBounds_toArray, List.set_cons_zero, List.set_cons_succ]))
      (refine plan_end rfl rfl rfl fun K hK => ?_; (try simp only [List.getElem_toArray, List.getElem_cons_succ, List.getElem_cons_zero]))
      go_simp
      obtain ⟨fT, ht, hd⟩ := HKD.out.t
      refine (tNext_any ht 1 r HO.out.1).mono ?_; rintro e w2 ⟨u, hs, rfl, hsz, hu, ht2, hm2⟩
      obtain ⟨N, hN⟩ : ∃ N, N = ((nextT [(1, rs)] 1 r).getD []).length := ⟨_, rfl⟩
      obtain ⟨xs, hxs⟩ : ∃ xs, xs = ints ((nextT [(1, rs)] 1 r).getD []) := ⟨_, rfl⟩
      rw [← hN, ← hxs] at hu
      obtain ⟨adu, cu, rfl, hnu, hcu, _⟩ := hu.form
      unfold maxLen at hcu
      have HK2 := Lib.hid (HKD.out.next hd hsz.1 hsz.2 ht2 hm2)
      have HU := Lib.hid hu
      refine hK _ _ ?_
      clear hK K ht hd hsz hu ht2 hm2 hN hxs HA HC HSZ HKD
      try simp only [List.getElem_toArray, List.getElem_cons_succ, List.getElem_cons_zero, Act.put, List.setIfInBounds_toArray, List.set_cons_zero, List.set_cons_succ]
      repeat (first | (refine plan_skip rfl rfl ?_; simp only [List.getElem_toArray, List.getElem_cons_succ, List.getElem_cons_zero, Act.put, List.setIfInBounds_toArray, List.set_cons_zero, List.set_cons_succ]) | (refine plan_pass2 rfl rfl ?_; simp only [List.getElem_toArray, List.getElem_cons_succ, List.getElem_cons_zero, Act.put, List.setIfInBounds_toArray, List.set_cons_zero, List.set_cons_succ]) | (refine plan_pass3 rfl rfl ?_; simp only [List.getElem_toArray, List.getElem_cons_succ, List.getElem_cons_zero, Act.put, List.setIfInBounds_toArray, List.set_cons_zero, List.set_cons_succ]) | (refine plan_take (v := ?_) rfl rfl ?_ ?_; rotate_left; (focus (intro w0; go_simp; try with_reducible rfl)); simp only [List.getElem_toArray, List.getElem_cons_succ, List.getElem_cons_zero, Act.put, List.setIfInBounds_toArray, List.set_cons_zero, List.set_cons_succ]) | fail )
      refine plan_nil ?_
      go_wp2_with fail
      go_loopw [10] (fun kv wk => ∃ k : Nat, k ≤ N ∧ kv = .int .i64 (k : Int) ∧ ∃ ys, Row wk (fun q => hs ≤ q) 3 1 (.slice adu N cu) N ys ∧ Mod (fun q => hs ≤ q) w2 wk) (fun kv _ => N - (intOf kv).toNat)
      case atStart => exact ⟨0, Nat.zero_le _, rfl, xs, HU.out, Mod.refl _ _⟩
      case round =>
        obtain ⟨k, hk, rfl, ys, hy, hm⟩ := hrel
        have HY := Lib.hid hy
        have HM := Lib.hid hm
        clear hy hm
        by_cases hkN : k < N
        · obtain ⟨gu, cu', e, _, _, hgu⟩ := HY.out.at0 (by omega)
          injection e with e1 e2 e3
          subst e1
          clear e2 e3
          have HFT : Hid (k < ys.length) := Lib.hid (by have := HY.out.len; omega)
          have HGU := Lib.hid hgu
          go_wp2_with (refine wpList_store_row1 rfl _ _ _ rfl HY.out gu k (.int .i64 9) rfl rfl rfl HFT.out HI1.out rfl ?_; intro w5 HY5 HM5)
          go_roundw
          case rel => exact ⟨k + 1, by omega, by go_num, _, HY5.out, HM.out.trans HM5.out fun x hx => .inl (by rw [show x = gu from hx]; exact HGU.out)⟩
          case measure => simp [intOf]; omega
        · obtain rfl : k = N := by omega
          have hk3 := HK2.out.keep HM.out
          have hrx := hk3.x.rowAt HR.out
          have hrm := hk3.m.rowAt HR.out
          obtain ⟨ysx, hyx⟩ := hk3.x.next j r HR.out
          obtain ⟨ysm, hym⟩ := hk3.m.next j r HR.out
          obtain ⟨N2, hN2⟩ : ∃ N2, N2 = r.next.length := ⟨_, rfl⟩
          have hN3 : 1 ≤ N2 := by rw [hN2]; exact HNX.out.1
          rw [← hN2] at hyx hym
          obtain ⟨hx, ox, esx, _, _, _⟩ := hyx.at0 hN3
          obtain ⟨hm', om, esm, _, _, _⟩ := hym.at0 hN3
          have cX := hrx 19 _ (rowC_19 _ _ _ _ _ HO.out.1)
          have cM := hrm 19 _ (rowC_19 _ _ _ _ _ HO.out.1)
          rw [esx] at cX hyx
          rw [esm] at cM hym
          have HK3 := Lib.hid hk3.drew
          have HYX := Lib.hid hyx.drew
          have HYM := Lib.hid hym.drew
          have hS : wr.drew.cell? ⟨gm, j * 20 + 19, none⟩ = some (.slice (some ⟨hm', 0, none⟩) N2 om) ∧ wr.drew.cell? ⟨gx, j * 20 + 19, none⟩ = some (.slice (some ⟨hx, 0, none⟩) N2 ox) := ⟨cM, cX⟩
          have HSS := Lib.hid hS
          clear hk3 hrx hrm hyx hym hN2 esx esm cM hS HK2 HU HY HM
          have hpos : (0 : Int) < (N2 : Int) := by omega
          go_wp2_with fail
          clear cX hpos
          refine wp_region_plan [11, 13] [(0, 0), (1, 0), (2, 0), (3, 0), (4, 1), (5, 0), (6, 0), (7, 0), (8, 0), (9, 1), (10, 0), (11, 3), (12, 0), (13, 3)] (fun w' : World => w'.cell? ⟨gm, j * 20 + 19, none⟩ = some (.slice (some ⟨hm', 0, none⟩) N2 om) ∧ w'.cell? ⟨gx, j * 20 + 19, none⟩ = some (.slice (some ⟨hx, 0, none⟩) N2 ox)) (by kernel_rfl) (by kernel_rfl) (fun d _ _ _ _ h => by cases d <;> exact h) ?_
          repeat (first | (refine plan_skip rfl rfl ?_; simp only [List.getElem_toArray, List.getElem_cons_succ, List.getElem_cons_zero, Act.put, List.setIfInBounds_toArray, List.set_cons_zero, List.set_cons_succ]) | (refine plan_pass2 rfl rfl ?_; simp only [List.getElem_toArray, List.getElem_cons_succ, List.getElem_cons_zero, Act.put, List.setIfInBounds_toArray, List.set_cons_zero, List.set_cons_succ]) | (refine plan_pass3 rfl rfl ?_; simp only [List.getElem_toArray, List.getElem_cons_succ, List.getElem_cons_zero, Act.put, List.setIfInBounds_toArray, List.set_cons_zero, List.set_cons_succ]) | (refine plan_take (v := ?_) rfl rfl ?_ ?_; rotate_left; (focus (intro w0; go_simp; try with_reducible rfl)); simp only [List.getElem_toArray, List.getElem_cons_succ, List.getElem_cons_zero, Act.put, List.setIfInBounds_toArray, List.set_cons_zero, List.set_cons_succ]) | (refine plan_held (v := ?_) rfl rfl HSS.out ?_ ?_; rotate_left; (focus (intro w0 hSw; (try dsimp only at hSw); go_split_ands; go_simp; try with_reducible rfl)); simp only [List.getElem_toArray, List.getElem_cons_succ, List.getElem_cons_zero, Act.put, List.setIfInBounds_toArray, List.set_cons_zero, List.set_cons_succ])  | (refine plan_skip1 rfl rfl HSS.out ?_; simp only [List.getElem_toArray, List.getElem_cons_succ, List.getElem_cons_zero, Act.put, List.setIfInBounds_toArray, List.set_cons_zero, List.set_cons_succ]))
          (refine plan_end rfl rfl rfl fun K hK => ?_; (try simp only [List.getElem_toArray, List.getElem_cons_succ, List.getElem_cons_zero]))
          refine wp_store_row1 _ _ _ rfl HYM.out hm' 0 (.int .i64 7) rfl rfl rfl (by have := HYM.out.len; omega) HI1.out rfl ?_
          intro w5 HY5 HM5
          have HK5 := Lib.hid (HK3.out.wroteM HYM.out rfl HY5.out HM5.out)
          have HX5 := Lib.hid (HYX.out.keep HM5.out fun q hq e => (HK3.out.dm hm' (HYM.out.2 _ rfl)).1 (by rw [← show q = hm' from e]; exact hq))
          refine hK _ _ ?_
          clear hK K HK3 HYM HYX HM5 HY5 HSS
          try simp only [List.getElem_toArray, List.getElem_cons_succ, List.getElem_cons_zero, Act.put, List.setIfInBounds_toArray, List.set_cons_zero, List.set_cons_succ]
          repeat (first | (refine plan_skip rfl rfl ?_; simp only [List.getElem_toArray, List.getElem_cons_succ, List.getElem_cons_zero, Act.put, List.setIfInBounds_toArray, List.set_cons_zero, List.set_cons_succ]) | (refine plan_pass2 rfl rfl ?_; simp only [List.getElem_toArray, List.getElem_cons_succ, List.getElem_cons_zero, Act.put, List.setIfInBounds_toArray, List.set_cons_zero, List.set_cons_succ]) | (refine plan_pass3 rfl rfl ?_; simp only [List.getElem_toArray, List.getElem_cons_succ, List.getElem_cons_zero, Act.put, List.setIfInBounds_toArray, List.set_cons_zero, List.set_cons_succ]) | (refine plan_take (v := ?_) rfl rfl ?_ ?_; rotate_left; (focus (intro w0; go_simp; try with_reducible rfl)); simp only [List.getElem_toArray, List.getElem_cons_succ, List.getElem_cons_zero, Act.put, List.setIfInBounds_toArray, List.set_cons_zero, List.set_cons_succ]) | fail )
          (refine plan_end rfl rfl rfl fun K hK => ?_; (try simp only [List.getElem_toArray, List.getElem_cons_succ, List.getElem_cons_zero]))
          refine wp_store_row1 _ _ _ rfl HX5.out hx 0 (.int .i64 8) rfl rfl rfl (by have := HX5.out.len; omega) HI1.out rfl ?_
          intro w6 HY6 HM6
          have HK6 := Lib.hid (HK5.out.wroteX HX5.out rfl HY6.out HM6.out)
          refine hK _ _ ?_
          clear hK K HK5 HX5 HM6 HY6
          try simp only [List.getElem_toArray, List.getElem_cons_succ, List.getElem_cons_zero, Act.put, List.setIfInBounds_toArray, List.set_cons_zero, List.set_cons_succ]
          repeat (first | (refine plan_skip rfl rfl ?_; simp only [List.getElem_toArray, List.getElem_cons_succ, List.getElem_cons_zero, Act.put, List.setIfInBounds_toArray, List.set_cons_zero, List.set_cons_succ]) | (refine plan_pass2 rfl rfl ?_; simp only [List.getElem_toArray, List.getElem_cons_succ, List.getElem_cons_zero, Act.put, List.setIfInBounds_toArray, List.set_cons_zero, List.set_cons_succ]) | (refine plan_pass3 rfl rfl ?_; simp only [List.getElem_toArray, List.getElem_cons_succ, List.getElem_cons_zero, Act.put, List.setIfInBounds_toArray, List.set_cons_zero, List.set_cons_succ]) | (refine plan_take (v := ?_) rfl rfl ?_ ?_; rotate_left; (focus (intro w0; go_simp; try with_reducible rfl)); simp only [List.getElem_toArray, List.getElem_cons_succ, List.getElem_cons_zero, Act.put, List.setIfInBounds_toArray, List.set_cons_zero, List.set_cons_succ]) | fail )
          refine plan_nil ?_
          go_wp2
          go_roundw
          case rel => exact ⟨j + 1, by omega, by go_num, _, HK6.out⟩
          case measure => simp [intOf]; omega
    · obtain rfl : j = n := by omega
      clear HGL HGX HGM
      go_wp2_with fail
      obtain ⟨fT, ht, hd⟩ := HK.out.t
      refine (tRows_any ht 1).mono ?_; rintro e w7 ⟨yv, svy, rfl, hr7, hm7⟩
      have HM7 := Lib.hid (HK.out.mod.trans hm7 fun _ f => f.elim)
      have HR7 : Hid (RowsAt w7 yv rs svy) := Lib.hid hr7.at
      have HL7 := Lib.hid (HK.out.l.keep hm7 fun _ _ f => f).at
      clear ht hd hr7 hm7 HK
      go_wp2_with fail
      refine (refSame_true yv _ rs svy svl _ HR7.out HL7.out).mono ?_; rintro e w8 ⟨rfl, hm8⟩
      have HM8 := Lib.hid (HM7.out.trans hm8 fun _ f => f.elim)
      clear hm8
      go_wp2_with fail
      refine (lives35_any _).mono ?_; rintro e w9 ⟨rfl, hm9⟩
      have HM9 := Lib.hid (HM8.out.trans hm9 fun _ f => f.elim)
      clear hm9
      go_wp2
      go_ret
      exact ⟨rfl, HM9.out⟩
end Go.Proofs.Ytegjamjognpdkaa
