/- TablePlays: what holds round by round. -/
import Derived.Test.YtegjamjognpdkaaGreatSeqK
import Derived.Test.YtegjamjognpdkaaGreatTabE
import Derived.Test.YtegjamjognpdkaaGreatSortU
import Derived.Test.YtegjamjognpdkaaGreatTabD
import Derived.Test.YtegjamjognpdkaaGreatMapK
import Derived.Test.YtegjamjognpdkaaGreatSerial
import Derived.WalkKit
import Derived.Maps.Ext
import Derived.Laws.IdiomRangeMap
import Derived.Deep.LoopGhost
import Derived.Test.YtegjamjognpdkaaGreatFound
namespace Go.Proofs.YtegjamjognpdkaaGreat
open Go.RowKit Go.Maps Go.Sort
set_option linter.unusedVariables false
set_option linter.unusedSimpArgs false
def apAssign : Code := (Code.region 2 #[{ dst := some 5, op := Op.assign (Operand.tmp 7), type := 29, pos := "iter.go:51", after := #[], guard := none }] false)
def apBody : Code := (Code.block 1 (Code.region 3 #[{ dst := some 8, op := Op.load (47) (Operand.tmp 2), type := 47, pos := "iter.go:52", after := #[], guard := none }, { dst := some 9, op := Op.move (Operand.tmp 5), type := 29, pos := "iter.go:52", after := #[], guard := none }, { dst := some 10, op := Op.buildSlice (47) 1 #[(0, Operand.tmp 9)], type := 47, pos := "iter.go:52", after := #[{ on := 1, ground := Ground.data }], guard := none }, { dst := some 11, op := Op.call { callee := Callee.builtin Builtin.append, args := #[Operand.tmp 8, Operand.tmp 10], argTypes := #[47, 47] }, type := 47, pos := "iter.go:52", after := #[{ on := 0, ground := Ground.data }, { on := 2, ground := Ground.data }], guard := none }, { dst := none, op := Op.store (47) (Operand.tmp 2) (Operand.tmp 11), type := 0, pos := "iter.go:52", after := #[{ on := 3, ground := Ground.data }, { on := 3, ground := Ground.chain }, { on := 0, ground := Ground.phase }, { on := 1, ground := Ground.phase }, { on := 2, ground := Ground.phase }, { on := 3, ground := Ground.phase }], guard := none }] false))
def apRec (fn : FuncId) (sv : Value) (Bs D : Nat) (st : LoopState) (pend : Option Code) : Loop :=
  { state := st, pending := pend, fn, tmps := #[.slice none 0 0, sv, .pointer (some ⟨Bs, 0, none⟩), undef, .slice none 0 0, undef, sv, undef, undef, undef, undef, undef, undef], params := #[7], assign := apAssign, body := apBody, defers := D }

structure ApAt (w0 : World) (fn : FuncId) (sv : Value) (Bs l D : Nat) (ss : List Int) (W : World) : Prop where
  box : ∃ v, W.heap[Bs]? = some (.cells #[v] (47) (0, 0)) ∧ W.ownsRow w0.heap.size (29) 1 v ss.length (ss.map encU) ∧ (v = .slice none 0 0 ↔ ss = [])
  L : W.heap[l]? = some (.loop (apRec fn sv Bs D .ready none))
  K : W.heap[D]? = some (.deferred (some []))
  below : Below w0.heap.size w0 W

theorem ap_abides (w0 : World) (fn : FuncId) (sv : Value) (Bs l D B : Nat) (hB : w0.heap.size ≤ B) : AbidesFrom B (ApAt w0 fn sv Bs l D) := fun s W W' row h hg hrow => by
  have hrow' : ∀ r, row = some r → ∃ o : Obj, W.heap[r]? = some o ∧ o.isWalk = true := fun r e => (hrow r e).2
  obtain ⟨v, hv, hr, hn⟩ := h.box
  exact ⟨⟨v, (grownBy_keeps hg hrow' hv rfl).trans hv, ownsRow_abides_a hr hg hrow', hn⟩, (grownBy_keeps hg hrow' h.L rfl).trans h.L, (grownBy_keeps hg hrow' h.K rfl).trans h.K,
    h.below.grown hg h.below.size (fun k e => Nat.le_trans hB (hrow k e).1)⟩

set_option maxRecDepth 100000 in
set_option maxHeartbeats 2000000 in
theorem apYield (F : Fence) (m : Nat) (w0 : World) (fn : FuncId) (hfn : F.fn fn) (sv : Value) (Bs l D : Nat) (hBl : Bs ≠ l) (hDl : D ≠ l) (hDB : D ≠ Bs) (h0B : w0.heap.size ≤ Bs) (h0l : w0.heap.size ≤ l)
    (N : Nat) (hN : N ≤ maxLen) (hNb : N * 8 ≤ 140737488355328) (ss : List Int) (x : Int) (W : World) (h : ApAt w0 fn sv Bs l D ss W) (hlen : ss.length < N) :
    YieldAt F m Tryz.prog l #[encU x] W fun e W' => e = .returned (.bool true) ∧ ApAt w0 fn sv Bs l D (ss ++ [x]) W' ∧ KeepsWalks W W' := by
  have hne : 47 ≠ 29 := by decide
  obtain ⟨i0, hi, hz0, hz1, hz2⟩ := info_parts (show (Tryz.prog.info? 29).map (fun i => (i.zero, i.size, i.bytes)) = some (some (.int .u32 0), 1, 4) by kernel_rfl)
  obtain ⟨v, hv, hrow, _⟩ := h.box
  refine ⟨fn, #[.slice none 0 0, sv, .pointer (some ⟨Bs, 0, none⟩), undef, .slice none 0 0, undef, sv, encU x, undef, undef, undef, undef, undef], apAssign, apBody, by simpa [apRec] using run_yield (P := Tryz.prog) (args := #[encU x]) h.L rfl, roundIn_of_wpIn hfn ?_⟩
  have hl : l < W.heap.size := (Array.getElem?_eq_some_iff.1 h.L).1
  have hbr := run_beginRound (P := Tryz.prog) h.L rfl
  obtain ⟨W2, hW2⟩ : ∃ W2, W.putObj l (.loop { apRec fn sv Bs D .ready none with state := .busy }) = W2 := ⟨_, rfl⟩
  rw [hW2] at hbr
  have hg2 : W.grownBy W2 (some l) := by rw [← hW2]; exact grownBy_putObj_a _ _ _
  have hk2 : KeepsWalks W W2 := by rw [← hW2]; exact KeepsWalks.putObj _ h.L rfl
  have hv2 : W2.heap[Bs]? = some (.cells #[v] (47) (0, 0)) := by rw [← hW2]; exact (World.putObj_heap_other hBl).trans hv
  have hK2 : W2.heap[D]? = some (.deferred (some [])) := by rw [← hW2]; exact (World.putObj_heap_other hDl).trans h.K
  have hL2 : W2.heap[l]? = some (.loop { apRec fn sv Bs D .ready none with state := .busy }) := by rw [← hW2]; exact World.putObj_heap_same hl
  have hrow2 : W2.ownsRow w0.heap.size (29) 1 v ss.length (ss.map encU) := hrow.kept hg2 (ownsRow_ne_a hrow h.L (fun cur e => by first | cases e | exact hne (Obj.cells.inj e).2.1))
  have hb2 : Below w0.heap.size w0 W2 := h.below.grown hg2 h.below.size (fun k e => by cases e; exact h0l)
  obtain ⟨hc2, hf2⟩ := cell_of_box_a hv2
  have hBlt : Bs < W2.heap.size := (Array.getElem?_eq_some_iff.1 hv2).1
  have hl2 : l < W2.heap.size := (Array.getElem?_eq_some_iff.1 hL2).1
  have hDlt : D < W2.heap.size := (Array.getElem?_eq_some_iff.1 hK2).1
  have ne_of : ∀ {j : Nat} {o : Obj}, W2.heap[j]? = some o → (∀ cur, o ≠ .cells cur (29) (0, 0)) → some j ≠ v.ownBlock := fun hj hno => by
    rcases ownsRow_ne_a hrow2 hj hno with e | e
    · rw [e]; simp
    · exact fun e' => e e'.symm
  clear hW2
  unfold apAssign
  gi_wp2_with gi_round_op_a
  unfold apBody
  gi_wp2_with (first
    | (gi_at_builtin; refine wpListIn_append_own _ rfl _ _ (47) rfl w0.heap.size (29) i0 (.int .u32 0) 1 4 Tryz.underlying47 hi hz0 hz1 hz2 rfl (by decide) _ _ _ rfl (hrow2.alloc _) ⟨W2.heap.size, 0, none⟩ 1 1 [encU x] rfl rfl (cell_one_new _ _ _) (by simp [Value.oneCell', encU]) (by omega) (by omega) (by have := hb2.size; simp; omega) ?_; intro v' w3 hown' hg3 hnil3
       have hv3 : w3.heap[Bs]? = some (.cells #[v] (47) (0, 0)) := (hg3.block Bs (by simp; omega) (ne_of hv2 (fun cur e => by first | cases e | exact hne (Obj.cells.inj e).2.1))).trans ((Below.heap_alloc _ _ Bs hBlt).trans hv2)
       obtain ⟨hc3, hf3⟩ := cell_of_box_a hv3
       obtain ⟨g', cap', cur', rfl, hbase', hgb', hr1, hr2, hr3, hr4⟩ : ∃ g' cap' cur', v' = .slice (some ⟨g', 0, none⟩) (ss.length + 1) cap' ∧ w0.heap.size ≤ g' ∧ w3.heap[g']? = some (.cells cur' (29) (0, 0)) ∧ ss.length + 1 ≤ cap' ∧ cap' ≤ maxLen ∧ cur'.size = cap' * 1 ∧ cur'.toList.take ((ss.length + 1) * 1) = ss.map encU ++ [encU x] := by
         rcases hown'.2 with ⟨_, h0⟩ | h'
         · exact absurd h0 (by omega)
         · exact h'
       go_frame)
    | gi_round_op_a)
  have hg3' : (W2.alloc (.cells #[encU x] (29))).grownBy w3 v.ownBlock := hg3
  have hL3 : w3.heap[l]? = some (.loop { apRec fn sv Bs D .ready none with state := .busy }) := (hg3'.block l (by simp; omega) (ne_of hL2 (fun cur e => by first | cases e | exact hne (Obj.cells.inj e).2.1))).trans ((Below.heap_alloc _ _ l hl2).trans hL2)
  have hK3 : w3.heap[D]? = some (.deferred (some [])) := (hg3'.block D (by simp; omega) (ne_of hK2 (fun cur e => by first | cases e | exact hne (Obj.cells.inj e).2.1))).trans ((Below.heap_alloc _ _ D hDlt).trans hK2)
  obtain ⟨w4, hw4⟩ : ∃ w4, w3.setCell ⟨Bs, 0, none⟩ (.slice (some ⟨g', 0, none⟩) (ss.length + 1) cap') = w4 := ⟨_, rfl⟩
  rw [hw4]
  have hg4 : w3.grownBy w4 (some Bs) := by rw [← hw4]; exact grownBy_setCell0_a _ _ _
  have hv4 : w4.heap[Bs]? = some (.cells #[.slice (some ⟨g', 0, none⟩) (ss.length + 1) cap'] (47) (0, 0)) := by rw [← hw4]; exact heap_setCell_box_a _ hv3
  have hL4 : w4.heap[l]? = some (.loop { apRec fn sv Bs D .ready none with state := .busy }) := (hg4.block l (Array.getElem?_eq_some_iff.1 hL3).1 (fun e => hBl (by cases e; rfl))).trans hL3
  have hK4 : w4.heap[D]? = some (.deferred (some [])) := (hg4.block D (Array.getElem?_eq_some_iff.1 hK3).1 (fun e => hDB (by cases e; rfl))).trans hK3
  have hrow4 := hown'.kept hg4 (ownsRow_ne_a hown' hv3 (fun cur e => by first | cases e | exact hne (Obj.cells.inj e).2.1))
  have hl4 : l < w4.heap.size := (Array.getElem?_eq_some_iff.1 hL4).1
  have hb3 : Below w0.heap.size w0 w3 := (hb2.alloc hb2.size _).grown hg3' (by have := hb2.size; simp; omega) (fun k e => (hrow2.lt k e).1)
  have hb4 : Below w0.heap.size w0 w4 := hb3.grown hg4 hb3.size (fun k e => by cases e; exact h0B)
  have hk4 : KeepsWalks W w4 := ((hk2.trans (KeepsWalks.alloc _ _)).trans (KeepsWalks.of_grownBy hg3' (ownsRow_not_walk_a (hrow2.alloc _)))).trans (by rw [← hw4]; exact KeepsWalks.setCell _ _ _)
  clear hw4
  refine ⟨_, _, run_endRound none hL4, rfl, ⟨⟨_, (World.putObj_heap_other hBl).trans hv4, ?_, by simp⟩, World.putObj_heap_same hl4, (World.putObj_heap_other hDl).trans hK4, hb4.grown (grownBy_putObj_a _ _ _) hb4.size (fun k e => by cases e; exact h0l)⟩, hk4.trans (KeepsWalks.putObj _ hL4 rfl)⟩
  have := hrow4.kept (grownBy_putObj_a w4 l (.loop { { apRec fn sv Bs D .ready none with state := .busy } with state := if (none : Option Code).isNone then .ready else .done, pending := none })) (ownsRow_ne_a hrow4 hL4 (fun cur e => by first | cases e | exact hne (Obj.cells.inj e).2.1))
  simpa using this


set_option maxRecDepth 100000 in
set_option maxHeartbeats 2000000 in
theorem appendSeq_in (F : Fence) (n : Nat) (h11 : F.fn 64) (hro : F.round = none) (hn : 2 ≤ n) (g : Nat) (lb : Array Value) (hFg : F.fn g) (eg : ∀ args w, (callFunc g args).run Tryz.prog w = .ok (.enter g args) w)
    (S : List Int → Prop) (N : Nat) (hN : N ≤ maxLen) (hNb : N * 8 ≤ 140737488355328) (w : World) (hseq : SeqGives F (n - 1) Tryz.prog g lb encU S N w) :
    CallsIn F n Tryz.prog 64 #[.slice none 0 0, .func (.func g) #[] lb] w fun e w' => ∃ (v : Value) (ss : List Int), e = .returned v ∧ S ss ∧ w'.ownsRow w.heap.size (29) 1 v ss.length (ss.map encU) ∧ (v = .slice none 0 0 ↔ ss = []) ∧ Below w.heap.size w w' := by
  have h1 : 1 ≤ n := by omega
  have hne : 47 ≠ 29 := by decide
  have FG := Tryz.func64
  refine callsIn_of_wp_marks FG rfl h11 ?_ hro
  simp only [Tryz.ntmps64, List.size_toArray, List.length_cons, List.length_nil, Nat.reduceAdd, Nat.reduceSub, Array.replicate_succ, Array.replicate_zero, List.push_toArray, List.append_toArray, List.nil_append, List.cons_append]
  gi_wp2
  refine wpIn_rangeFunc ?_
  intro fn hfn
  rw [hro]
  obtain ⟨W0, hW0⟩ : ∃ W0, w.alloc (.cells #[.slice none 0 0] (47)) = W0 := ⟨_, rfl⟩
  have hs0 : W0.heap.size = w.heap.size + 1 := by rw [← hW0]; simp
  have hv0 : W0.heap[w.heap.size]? = some (.cells #[.slice none 0 0] (47) (0, 0)) := by rw [← hW0]; exact World.alloc_heap_new w _
  have hb0 : Below w.heap.size w W0 := by rw [← hW0]; exact (Below.refl _ w).alloc (Nat.le_refl _) _
  rw [hW0]
  obtain ⟨W1, hW1⟩ : ∃ W1, (W0.alloc (.deferred (some []))).alloc (.loop (apRec fn (.func (.func g) #[] lb) w.heap.size W0.heap.size .ready none)) = W1 := ⟨_, rfl⟩
  have hold : ∀ k, k < W0.heap.size → W1.heap[k]? = W0.heap[k]? := fun k hk => by
    rw [← hW1]; exact (Below.heap_alloc _ _ k (by simp; omega)).trans (Below.heap_alloc _ _ k hk)
  have hb1 : Below w.heap.size w W1 := by rw [← hW1]; exact (hb0.alloc hb0.size _).alloc (by have := hb0.size; simp; omega) _
  have hs1 : W1.heap.size = W0.heap.size + 2 := by rw [← hW1]; simp
  have hM : ApAt w fn (.func (.func g) #[] lb) w.heap.size (W0.heap.size + 1) W0.heap.size [] W1 :=
    ⟨⟨_, (hold w.heap.size (by omega)).trans hv0, ⟨rfl, .inl ⟨rfl, rfl⟩⟩, by simp⟩,
     by rw [← hW1]; have := World.alloc_heap_new (W0.alloc (.deferred (some []))) (.loop (apRec fn (.func (.func g) #[] lb) w.heap.size W0.heap.size .ready none)); rwa [World.size_alloc] at this,
     by rw [← hW1]; exact (Below.heap_alloc _ _ _ (by simp)).trans (World.alloc_heap_new W0 _), hb1⟩
  refine ⟨W0.heap.size + 1, [{ target := .collected W0.heap.size, args := #[] }], W1, { target := .fn (.func g) lb, args := #[.func (.yield (W0.heap.size + 1)) #[] #[]] }, W1, g,
    #[.func (.yield (W0.heap.size + 1)) #[] #[]] ++ lb, W1, ?_, ?_, ?_, ?_, fun _ => h1, ?_⟩
  · rw [← hW1]; exact run_enterLoop_outer _ _ _ _ _
  · simp [resolve, go_sem]
  · intro f' hf'; simp [Target.leads] at hf'; subst hf'; exact hFg
  · simp [invoke, go_sem, eg]
  · refine (hseq (W0.heap.size + 1) (ApAt w fn (.func (.func g) #[] lb) w.heap.size (W0.heap.size + 1) W0.heap.size) W1 hb1 (ap_abides _ _ _ _ _ _ _ hb1.size)
      (fun pre x W hJ hl => apYield F (n - 1 - 1) w fn hfn _ w.heap.size (W0.heap.size + 1) W0.heap.size (by omega) (by omega) (by omega) (Nat.le_refl _) (by omega) N hN hNb pre x W hJ hl) hM).mono ?_
    rintro e W2 ⟨⟨v0, rfl⟩, ss, hS, h2⟩
    obtain ⟨v, hv, hrow, hnil⟩ := h2.box
    have hend := run_endLoop (P := Tryz.prog) h2.L (by simp [apRec])
    obtain ⟨W3, hW3⟩ : ∃ W3, W2.putObj (W0.heap.size + 1) (.loop { apRec fn (.func (.func g) #[] lb) w.heap.size W0.heap.size .ready none with state := .exhausted }) = W3 := ⟨_, rfl⟩
    rw [hW3] at hend
    have hg3 : W2.grownBy W3 (some (W0.heap.size + 1)) := by rw [← hW3]; exact grownBy_putObj_a _ _ _
    have hv3 : W3.heap[w.heap.size]? = some (.cells #[v] (47) (0, 0)) := by rw [← hW3]; exact (World.putObj_heap_other (by omega)).trans hv
    have hK3 : W3.heap[W0.heap.size]? = some (.deferred (some [])) := by rw [← hW3]; exact (World.putObj_heap_other (by omega)).trans h2.K
    have hrow3 := hrow.kept hg3 (ownsRow_ne_a hrow h2.L (fun cur e => by first | cases e | exact hne (Obj.cells.inj e).2.1))
    have hb3 : Below w.heap.size w W3 := h2.below.grown hg3 h2.below.size (fun k e => by cases e; omega)
    obtain ⟨hc3, hf3⟩ := cell_of_box_a hv3
    clear hW3
    refine ⟨none, W3, hend, ?_⟩
    gi_wp2
    rw [← hs0]
    refine ⟨by simp, .inl ⟨_, _, rfl, run_takeDeferred hK3, ?_⟩⟩
    exact ⟨_, results_tmp rfl _ _ _, v, ss, rfl, hS, hrow3.kept (grownBy_putObj_a _ _ _) (ownsRow_ne_a hrow3 hK3 (fun cur e => by first | cases e | exact hne (Obj.cells.inj e).2.1)), hnil, hb3.grown (grownBy_putObj_a _ _ _) hb3.size (fun k e => by cases e; omega)⟩


set_option maxHeartbeats 1000000 in
theorem collect_in (F : Fence) (n : Nat) (h8 : F.fn 48) (h11 : F.fn 64) (hro : F.round = none) (hn : 3 ≤ n) (g : Nat) (lb : Array Value) (hFg : F.fn g) (eg : ∀ args w, (callFunc g args).run Tryz.prog w = .ok (.enter g args) w)
    (S : List Int → Prop) (N : Nat) (hN : N ≤ maxLen) (hNb : N * 8 ≤ 140737488355328) (w : World) (hseq : SeqGives F (n - 1 - 1) Tryz.prog g lb encU S N w) :
    CallsIn F n Tryz.prog 48 #[.func (.func g) #[] lb] w fun e w' => ∃ (v : Value) (ss : List Int), e = .returned v ∧ S ss ∧ w'.ownsRow w.heap.size (29) 1 v ss.length (ss.map encU) ∧ (v = .slice none 0 0 ↔ ss = []) ∧ Below w.heap.size w w' := by
  have h1 : 1 ≤ n := by omega
  have e11 : ∀ args w, (callFunc 64 args).run Tryz.prog w = .ok (.enter 64 args) w := enters_of Tryz.func64 (by kernel_rfl) rfl
  have FG := Tryz.func48
  refine callsIn_of_wp FG rfl h8 ?_ hro
  simp only [Tryz.ntmps48, List.size_toArray, List.length_cons, List.length_nil, Nat.reduceAdd, Nat.reduceSub, Array.replicate_succ, Array.replicate_zero, List.push_toArray, List.append_toArray, List.nil_append, List.cons_append]
  gi_wp2_with (gi_at_call 64; refine (appendSeq_in F (n - 1) h11 hro (by omega) g lb hFg eg S N hN hNb _ hseq).mono ?_; rintro e w' ⟨v, ss, rfl, hS, hrow, hnil, hb⟩)
  go_ret
  exact ⟨v, ss, rfl, hS, hrow, hnil, hb⟩
end Go.Proofs.YtegjamjognpdkaaGreat
namespace Go.Proofs.YtegjamjognpdkaaGreat
open Go.RowKit
set_option linter.unusedVariables false
set_option linter.unusedSimpArgs false
/-- what Install tells -/
def instC (vs : List (Int × List TRow)) (now v : Int) (l : List TRow) : Int :=
  if goodT l = false then 2 else if (hasV vs v).isSome then 9 else if aheadB now v then 11 else if 8 ≤ vs.length then 7 else 0
/-- which versions there are behind it -/
def instV (vs : List (Int × List TRow)) (now v : Int) (l : List TRow) : List (Int × List TRow) := if instC vs now v l = 0 then vs ++ [(v, l)] else vs
theorem mput_new {vs : List (Int × List TRow)} {vbo : Int → Nat} {v : Int} (h : hasV vs v = none) (u : Value) : mput (verMap vs vbo) v u = verMap vs vbo ++ [(v, u)] := by
  induction vs with
  | nil => rfl
  | cons p vs ih =>
    unfold hasV at h
    rw [List.find?_cons] at h
    by_cases e : p.1 = v
    · simp [e] at h
    · have hb : (p.1 == v) = false := by simp [e]
      rw [hb] at h
      have := ih h
      unfold verMap at this ⊢
      simp [mput, e, this]
theorem neq_ver (vb : Nat) (w : World) : (binOp .neq 67 (.pointer (some ⟨vb, 0, none⟩)) (.pointer none)).run Tryz.prog w = .ok (.bool true) w := by kernel_rfl
theorem exec_build_ver {ev : Operand → Value} {op : Oper} {x : Operand} (ho : op.op = .build 80 #[(0, x)]) (ad : Option Addr) (n cp : Nat) (ex : ev x = .slice ad n cp) (w : World) :
    (execOp ev op).run Tryz.prog w = .ok (.value (.agg (verC (.slice ad n cp) 0 0 (.map none)).toArray)) w := by
  simp [execOp, ho, ex, Instr.build, Sem.run_bind, Tryz.zeroValue80, run_underlying Tryz.underlying80, Instr.fill, Result.andThen, Value.cells, verC, Tryz.sizeOf36]
set_option maxRecDepth 100000 in
set_option maxHeartbeats 4000000 in
theorem Install_any {w : World} {f : Nat → Prop} {tb : Nat} {now : Int} {vs : List (Int × List TRow)} (h : TabAt w f tb now vs) (h0 : 0 ≤ now) (h1 : now ≤ 4294967296) (v : Int) (lv : Value) (l : List TRow) (sv : Nat → Value) (hl : RowsAt w lv l sv) (hn : vs.length < 1000) :
    Calls Tryz.prog 5 #[.pointer (some ⟨tb, 0, none⟩), .int .u32 v, lv] w fun e w' => e = .returned (.int .i64 (instC vs now v l)) ∧ TabAt w' (fun k => f k ∨ w.heap.size ≤ k) tb now (instV vs now v l) ∧ Mod f w w' := by
  have HT := Lib.hid h
  have HL := Lib.hid hl
  have hnot : ∀ (x : Bool) (w : World), (Op.unary .not (.bool x)).run Tryz.prog w = .ok (.bool (!x)) w := fun _ _ => rfl
  clear h hl
  have no : ∀ (c : Int) (w2 : World), instC vs now v l = c → c ≠ 0 → Mod (fun _ => False) w w2 → Ending.returned (.int .i64 c) = Ending.returned (.int .i64 (instC vs now v l)) ∧ TabAt w2 (fun k => f k ∨ w.heap.size ≤ k) tb now (instV vs now v l) ∧ Mod f w w2 := by
    intro c w2 hc hc0 hm
    have e : instV vs now v l = vs := by unfold instV; rw [hc, if_neg hc0]
    rw [hc, e]
    exact ⟨rfl, (HT.out.keep hm fun k _ f => f).mono fun k hk _ => .inl hk, hm.mono fun _ f => f.elim⟩
  have NO := Lib.hid no
  clear no
  go_enter Tryz.func5, Tryz.ntmps5
  go_wp2_with fail
  refine (good_any lv l sv _ HL.out).mono ?_; rintro e w1 ⟨rfl, hm1⟩
  have HM1 := Lib.hid hm1
  clear hm1
  cases hg : goodT l with
  | false =>
    go_wp2
    go_ret
    exact NO.out _ _ (by unfold instC; rw [if_pos hg]) (by decide) HM1.out
  | true =>
    obtain ⟨mb, vbo, g, hin⟩ := HT.out.keep HM1.out fun k _ f => f
    have HI := Lib.hid hin
    have c0 := hin.tab.cell (j := 0) rfl
    have hlk := run_lookup_mp Tryz.underlying57 Tryz.underlying29 (fun w => (by kernel_rfl : (zeroValue 67).run Tryz.prog w = .ok (.pointer none) w)) hin.map v false
    rw [mget_vs] at hlk
    have HG := Lib.hid hg
    clear hin hg
    cases hv : hasV vs v with
    | some rs =>
      rw [hv] at hlk
      simp only [Bool.false_eq_true, if_false, Option.map_some, Option.getD_some, verPtr] at hlk
      have hne := neq_ver (vbo v)
      have HV := Lib.hid hv
      clear hv
      go_wp2
      go_ret
      exact NO.out _ _ (by unfold instC; rw [if_neg (by rw [HG.out]; decide), if_pos (by rw [HV.out]; rfl)]) (by decide) HM1.out
    | none =>
      rw [hv] at hlk
      simp only [Bool.false_eq_true, if_false, Option.map_none, Option.getD_none] at hlk
      have HV := Lib.hid hv
      have hll := run_len_mp (P := Tryz.prog) (ty := 3) Tryz.underlying57 HI.out.map
      have hvl : (verMap vs vbo).length = vs.length := by unfold verMap; simp
      rw [hvl] at hll
      clear hv hvl
      go_wp2_with fail
      refine (ahead_any HI.out.tab h0 h1 v).mono ?_; rintro e w2 ⟨rfl, rfl⟩
      cases ha : aheadB now v with
      | true =>
        have HA := Lib.hid ha
        clear ha
        go_wp2
        go_ret
        exact NO.out _ _ (by unfold instC; rw [if_neg (by rw [HG.out]; decide), if_neg (by rw [HV.out]; decide), if_pos HA.out]) (by decide) HM1.out
      | false =>
        have HA := Lib.hid ha
        clear ha
        by_cases h8 : 8 ≤ vs.length
        · have hd : decide ((8 : Int) ≤ (vs.length : Int)) = true := decide_eq_true (by omega)
          go_wp2
          go_ret
          exact NO.out _ _ (by unfold instC; rw [if_neg (by rw [HG.out]; decide), if_neg (by rw [HV.out]; decide), if_neg (by rw [HA.out]; decide), if_pos h8]) (by decide) HM1.out
        · have hd : decide ((8 : Int) ≤ (vs.length : Int)) = false := decide_eq_false (by omega)
          have HC : Hid (instC vs now v l = 0) := Lib.hid (by unfold instC; rw [if_neg (by rw [HG.out]; decide), if_neg (by rw [HV.out]; decide), if_neg (by rw [HA.out]; decide), if_neg h8])
          go_wp2_with fail
          clear hd h8 hll hlk
          refine wp_region_plan [9] [(0, 0), (1, 0), (2, 0), (3, 1), (4, 0), (5, 0), (6, 2), (7, 0), (8, 2), (9, 3)] (fun w' : World => w'.cell? ⟨tb, 0, none⟩ = some (.map (some mb))) (by kernel_rfl) (by kernel_rfl) (fun d _ _ _ _ h => by cases d <;> exact h) ?_
          have hdr : Mod (fun _ => False) w2 w2.drew := (Mod.refl _ _).drew
          have c1 := hdr.cell (fun f => f) c0
          replace HI := Lib.hid (HI.out.keep hdr fun k _ f => f)
          replace HM1 := Lib.hid HM1.out.drew
          obtain ⟨w1, hw1⟩ : ∃ w1, w1 = w2.drew := ⟨_, rfl⟩
          rw [← hw1] at HI HM1 c1
          try rw [← hw1]
          clear c0 hdr hw1
          have HL1 := Lib.hid (HL.out.keep HM1.out)
          have HTL := Lib.hid HI.out.tab.lt
          repeat (first | (refine plan_skip rfl rfl ?_; simp only [List.getElem_toArray, List.getElem_cons_succ, List.getElem_cons_zero, Act.put, List.setIfInBounds_toArray, List.set_cons_zero, List.set_cons_succ]) | (refine plan_pass2 rfl rfl ?_; simp only [List.getElem_toArray, List.getElem_cons_succ, List.getElem_cons_zero, Act.put, List.setIfInBounds_toArray, List.set_cons_zero, List.set_cons_succ]) | (refine plan_pass3 rfl rfl ?_; simp only [List.getElem_toArray, List.getElem_cons_succ, List.getElem_cons_zero, Act.put, List.setIfInBounds_toArray, List.set_cons_zero, List.set_cons_succ]) | (refine plan_take (v := ?_) rfl rfl ?_ ?_; rotate_left; (focus (intro w0; go_simp; try with_reducible rfl)); simp only [List.getElem_toArray, List.getElem_cons_succ, List.getElem_cons_zero, Act.put, List.setIfInBounds_toArray, List.set_cons_zero, List.set_cons_succ]) | (refine plan_held (v := ?_) rfl rfl c1 ?_ ?_; rotate_left; (focus (intro w0 hSw; (try dsimp only at hSw); go_split_ands; go_simp; try with_reducible rfl)); simp only [List.getElem_toArray, List.getElem_cons_succ, List.getElem_cons_zero, Act.put, List.setIfInBounds_toArray, List.set_cons_zero, List.set_cons_succ])  | (refine plan_skip1 rfl rfl c1 ?_; simp only [List.getElem_toArray, List.getElem_cons_succ, List.getElem_cons_zero, Act.put, List.setIfInBounds_toArray, List.set_cons_zero, List.set_cons_succ]))
          (refine plan_do rfl rfl fun K hK => ?_; try simp only [List.getElem_toArray, List.getElem_cons_succ, List.getElem_cons_zero])
          go_simp
          refine (own_any lv l sv _ HL1.out (goodT_le HG.out) (fun r hr => goodT_next HG.out hr)).mono ?_; rintro e w3 ⟨rv, sv', rfl, hr, hm2⟩
          have c2 := hm2.cell (fun f => f) c1
          obtain ⟨ad, cp, erv, _⟩ := hr.row.form
          obtain ⟨n, hln⟩ : ∃ n, n = l.length := ⟨_, rfl⟩
          rw [← hln] at erv
          subst erv
          have HR2 := Lib.hid hr.under
          have HM2 := Lib.hid hm2
          refine hK _ _ c2 ?_
          clear hK K hr hm2 hln c1
          try simp only [List.getElem_toArray, List.getElem_cons_succ, List.getElem_cons_zero, Act.put, List.setIfInBounds_toArray, List.set_cons_zero, List.set_cons_succ]
          refine plan_take (v := .agg (verC (.slice ad n cp) 0 0 (.map none)).toArray) rfl rfl (fun w0 => exec_build_ver rfl ad n cp rfl w0) ?_
          try simp only [List.getElem_toArray, List.getElem_cons_succ, List.getElem_cons_zero, Act.put, List.setIfInBounds_toArray, List.set_cons_zero, List.set_cons_succ]
          (refine plan_do rfl rfl fun K hK => ?_; try simp only [List.getElem_toArray, List.getElem_cons_succ, List.getElem_cons_zero])
          go_simp
          have HB3 := Lib.hid (Blk.new w3 80 (verC (.slice ad n cp) 0 0 (.map none)))
          have HM3 : Hid (Mod (fun _ => False) w3 (w3.alloc (.cells (verC (.slice ad n cp) 0 0 (.map none)).toArray 80 (0, 0)))) := Lib.hid ((Mod.refl _ _).alloc _)
          refine hK _ _ (HM3.out.cell (fun f => f) c2) ?_
          clear hK K c2
          try simp only [List.getElem_toArray, List.getElem_cons_succ, List.getElem_cons_zero, Act.put, List.setIfInBounds_toArray, List.set_cons_zero, List.set_cons_succ]
          (refine plan_end rfl rfl rfl fun K hK => ?_; (try simp only [List.getElem_toArray, List.getElem_cons_succ, List.getElem_cons_zero]))
          have HMM : Hid (Mod (fun _ => False) w1 (w3.alloc (.cells (verC (.slice ad n cp) 0 0 (.map none)).toArray 80 (0, 0)))) := Lib.hid (HM2.out.trans HM3.out fun _ f => f.elim)
          refine wp_update_mp (v := .pointer (some ⟨w3.heap.size, 0, none⟩)) Tryz.underlying57 Tryz.underlying29 rfl rfl rfl rfl (HI.out.map.keep HMM.out fun f => f) ?_
          intro w4 hp4 hm4
          rw [mput_new HV.out] at hp4
          have HE := Lib.hid (HI.out.add HV.out HMM.out ⟨_, sv', ⟨(HR2.out.keep HM3.out fun k _ f => f).mono fun k hk => ⟨hk.1, by omega⟩, .inl HB3.out, HM2.out.size, HG.out⟩⟩ hp4 hm4)
          have HM4 : Hid (Mod f w w4) := Lib.hid (((HM1.out.trans HMM.out fun _ f => f.elim).mono fun _ f => f.elim).trans hm4 fun k hk => .inl (by rw [show k = mb from hk]; exact HI.out.fmb))
          refine hK _ _ ?_
          clear hK K hp4 hm4
          try simp only [List.getElem_toArray, List.getElem_cons_succ, List.getElem_cons_zero, Act.put, List.setIfInBounds_toArray, List.set_cons_zero, List.set_cons_succ]
          repeat (first | (refine plan_skip rfl rfl ?_; simp only [List.getElem_toArray, List.getElem_cons_succ, List.getElem_cons_zero, Act.put, List.setIfInBounds_toArray, List.set_cons_zero, List.set_cons_succ]) | (refine plan_pass2 rfl rfl ?_; simp only [List.getElem_toArray, List.getElem_cons_succ, List.getElem_cons_zero, Act.put, List.setIfInBounds_toArray, List.set_cons_zero, List.set_cons_succ]) | (refine plan_pass3 rfl rfl ?_; simp only [List.getElem_toArray, List.getElem_cons_succ, List.getElem_cons_zero, Act.put, List.setIfInBounds_toArray, List.set_cons_zero, List.set_cons_succ]) | (refine plan_take (v := ?_) rfl rfl ?_ ?_; rotate_left; (focus (intro w0; go_simp; try with_reducible rfl)); simp only [List.getElem_toArray, List.getElem_cons_succ, List.getElem_cons_zero, Act.put, List.setIfInBounds_toArray, List.set_cons_zero, List.set_cons_succ]) | fail )
          refine plan_nil ?_
          go_wp2
          go_ret
          have e : instV vs now v l = vs ++ [(v, l)] := by unfold instV; rw [if_pos HC.out]
          rw [HC.out, e]
          exact ⟨rfl, HE.out.mono fun k hk _ => hk.imp (fun x => x) (fun x => Nat.le_trans HM1.out.size x), HM4.out⟩
end Go.Proofs.YtegjamjognpdkaaGreat
namespace Go.Proofs.YtegjamjognpdkaaGreat
open Go.RowKit
set_option linter.unusedVariables false
set_option linter.unusedSimpArgs false
set_option maxRecDepth 100000 in
set_option maxHeartbeats 4000000 in
theorem bitLen_any (n : Nat) (hn : n ≤ 8) (w : World) : Calls Tryz.prog 66 #[.int .u64 (n : Int)] w fun e w' => ∃ k, e = .returned (.int .i64 k) ∧ w' = w := by
  rcases (show n = 0 ∨ n = 1 ∨ n = 2 ∨ n = 3 ∨ n = 4 ∨ n = 5 ∨ n = 6 ∨ n = 7 ∨ n = 8 by omega) with rfl | rfl | rfl | rfl | rfl | rfl | rfl | rfl | rfl
  all_goals
    go_enter Tryz.func66, Tryz.ntmps66
    go_wp2
    go_ret
    exact ⟨_, rfl, rfl⟩
theorem Row.lenU {w : World} {f : Nat → Prop} {e : TypeId} {n : Nat} {v : Value} {l : List Int} (h : Row w f e 1 v n (l.map encU)) : l.length = n := by have := h.len; simpa using this
theorem ordU_nil : ordU [] := List.Pairwise.nil
set_option maxRecDepth 100000 in
set_option maxHeartbeats 4000000 in
theorem ins0_any (ad : Option Addr) (cp : Nat) (w : World) : Calls Tryz.prog 74 #[.slice ad 0 cp, .int .i64 0, .int .i64 0] w fun e w' => e = .returned (.tuple #[]) ∧ w' = w := by
  go_enter Tryz.func74, Tryz.ntmps74
  go_wp2_with fail
  refine wp_loop_rounds 1 ?_
  rw [rounds_succ]
  go_wp2
  go_end0
  exact ⟨rfl, rfl⟩
set_option maxRecDepth 100000 in
set_option maxHeartbeats 4000000 in
theorem pdq_any {R : World → Prop} (ad : Option Addr) (n cp : Nat) (k : Int) (w : World) (hn : n ≤ 8) (h : Calls Tryz.prog 74 #[.slice ad n cp, .int .i64 0, .int .i64 (n : Int)] w fun e w' => e = .returned (.tuple #[]) ∧ R w') :
    Calls Tryz.prog 65 #[.slice ad n cp, .int .i64 0, .int .i64 (n : Int), .int .i64 k] w fun e w' => e = .returned (.tuple #[]) ∧ R w' := by
  have hconv' : IntKind.i64.wrap (n : Int) = (n : Int) := IntWalk.i64_in _ (by omega)
  have h12 : decide ((n : Int) ≤ 12) = true := decide_eq_true (by omega)
  have h12' : (n : Int) ≤ 12 := by omega
  have HC := Lib.hid h
  clear h
  go_enter Tryz.func65, Tryz.ntmps65
  go_wp2_with fail
  refine wp_loop_rounds 1 ?_
  rw [rounds_succ]
  go_wp2_with (go_at_call 74; refine HC.out.mono ?_; rintro e w2 ⟨rfl, hR⟩)
  first | go_end0 | (simp only [Exit.inBlock, Exit.then]; refine bodyPost_ret (results_none rfl _ _ _) rfl ?_) | refine bodyPost_ret (results_none rfl _ _ _) rfl ?_
  exact ⟨rfl, hR⟩
set_option maxRecDepth 100000 in
set_option maxHeartbeats 4000000 in
theorem sortU_any (f : Nat → Prop) (v : Value) (l : List Int) (n : Nat) (w : World) (h : Row w f 29 1 v n (l.map encU)) (hn : n ≤ 8) :
    Calls Tryz.prog 49 #[v] w fun e w' => e = .returned (.tuple #[]) ∧ ∃ l', l'.Perm l ∧ ordU l' ∧ Row w' f 29 1 v n (l'.map encU) ∧ Mod f w w' := by
  obtain ⟨ad, cp, rfl, hnc, hcm, hg⟩ := h.form
  unfold maxLen at hcm
  have hconv : IntKind.u64.wrap (n : Int) = (n : Int) := IntWalk.u64_in _ (by omega)
  have hconv' : IntKind.i64.wrap (n : Int) = (n : Int) := IntWalk.i64_in _ (by omega)
  have HLN := Lib.hid (bitLen_any n hn w)
  have HIN : Hid (Calls Tryz.prog 74 #[.slice ad n cp, .int .i64 0, .int .i64 (n : Int)] w fun e w' => e = .returned (.tuple #[]) ∧ ∃ l', l'.Perm l ∧ ordU l' ∧ Row w' f 29 1 (.slice ad n cp) n (l'.map encU) ∧ Mod f w w') := by
    refine Lib.hid ?_
    rcases Nat.eq_zero_or_pos n with h0 | h0
    · subst h0
      have hl : l = [] := List.eq_nil_of_length_eq_zero h.lenU
      subst hl
      refine (ins0_any ad cp w).mono ?_
      rintro e w' ⟨rfl, rfl⟩
      exact ⟨rfl, [], .nil, ordU_nil, h, Mod.refl _ _⟩
    · obtain ⟨g, rfl, hf, _, _⟩ := hg h0
      refine (ins_any f l g n cp w h h0 (by omega)).mono ?_
      rintro e w' ⟨rfl, l', hI⟩
      refine ⟨rfl, l', by have := hI.perm; simpa using this, hI.ord, by have := hI.row; simpa using this, hI.mod.mono fun q hq => .inl (by rw [show q = g from hq]; exact hf)⟩
  have HPQ : Hid (∀ k, Calls Tryz.prog 65 #[.slice ad n cp, .int .i64 0, .int .i64 (n : Int), .int .i64 k] w fun e w' => e = .returned (.tuple #[]) ∧ ∃ l', l'.Perm l ∧ ordU l' ∧ Row w' f 29 1 (.slice ad n cp) n (l'.map encU) ∧ Mod f w w') := Lib.hid fun k => pdq_any ad n cp k w hn HIN.out
  clear h hg HIN
  go_enter Tryz.func49, Tryz.ntmps49
  go_wp2_with (first | (go_at_call 66; refine HLN.out.mono ?_; rintro e w' ⟨k, rfl, rfl⟩) | (go_at_call 65; refine (HPQ.out _).mono ?_; rintro e w' ⟨rfl, hR⟩))
  go_end0
  exact ⟨rfl, hR⟩
end Go.Proofs.YtegjamjognpdkaaGreat
namespace Go.Proofs.YtegjamjognpdkaaGreat
open Go.RowKit Go.Maps
set_option linter.unusedVariables false
set_option linter.unusedSimpArgs false
theorem Mod.ofBelow {w w' : World} (h : Below w.heap.size w w') : Mod (fun _ => False) w w' := ⟨h.os, h.tape, h.output, h.size, fun k hk _ => h.block k hk⟩
theorem Row.ofOwns {w : World} {base : Nat} {e : TypeId} {v : Value} {n : Nat} {xs : List Value} (h : w.ownsRow base e 1 v n xs) : Row w (fun k => base ≤ k) e 1 v n xs := by
  obtain ⟨hl, h⟩ := h
  rcases h with ⟨rfl, rfl⟩ | ⟨g, cap, cur, rfl, hb, hg, r⟩
  · exact ⟨⟨hl, .inl ⟨rfl, rfl⟩⟩, fun g hg => by simp [Value.ownBlock] at hg⟩
  · exact ⟨⟨hl, .inr ⟨g, cap, cur, rfl, Nat.zero_le _, hg, r⟩⟩, fun g' hg' => by simp [Value.ownBlock] at hg'; exact hg' ▸ hb⟩
set_option maxRecDepth 100000 in
set_option maxHeartbeats 4000000 in
/-- slices.Sorted over a map's keys -/
theorem sortedU_any (Bm b nn : Nat) (D0 : DataW Unit) (R : Value → Option (DataW Unit × List MemPlace)) (w : World) (hBm : Bm < w.heap.size) (hm : w.cell? ⟨Bm, 0, none⟩ = some (.map (some b))) (hown : w.ownsMap Tryz.prog 29 R b nn D0) (h8 : Maps.size D0 ≤ 8) :
    Calls Tryz.prog 30 #[.func (.func 50) #[] #[.pointer (some ⟨Bm, 0, none⟩)]] w fun e w' => ∃ v l, e = .returned v ∧ l.Perm (keysU D0) ∧ ordU l ∧
      Row w' (fun k => w.heap.size ≤ k) 29 1 v l.length (l.map encU) ∧ Mod (fun _ => False) w w' := by
  have hs := keys_gives 2 (by omega) Bm b nn D0 w hBm hm hown
  have hA := (callsIn_wide (n := 3)).1 (appendSeq_in Fence.wide 3 trivial rfl (by omega) 50 #[.pointer (some ⟨Bm, 0, none⟩)] trivial (enters_of Tryz.func50 (by kernel_rfl) rfl) _ _ (by unfold maxLen; omega) (by omega) w hs)
  have hks : (keysU D0).length = Maps.size D0 := by
    obtain ⟨es, c, _, _, _, rfl⟩ := hown
    simp [keysU, Maps.size]
  have HA := Lib.hid hA
  have HKS := Lib.hid hks
  clear hA hs hm hown hks
  go_enter Tryz.func30, Tryz.ntmps30
  go_wp2_with (first | (go_at_call 48; go_in) | (go_at_call 64; refine HA.out.mono ?_; rintro e w1 ⟨v, ss, rfl, hS, hrow, hnil, hb⟩))
  have hr1 := Row.ofOwns hrow
  have HS := Lib.hid hS
  have HM1 := Lib.hid (Mod.ofBelow hb)
  have hl8 : ss.length ≤ 8 := by rw [hS.length_eq, HKS.out]; exact h8
  refine (sortU_any _ v ss ss.length _ hr1 hl8).mono ?_
  rintro e w2 ⟨rfl, l', hp, ho, hr2, hm2⟩
  have HE := Lib.hid hr2
  have HM2 := Lib.hid hm2
  have HP := Lib.hid hp
  have HO := Lib.hid ho
  clear hr1 hrow hnil hb hS hr2 hm2 hp ho
  go_wp2
  go_ret
  exact ⟨v, l', rfl, HP.out.trans HS.out, HO.out, by rw [HP.out.length_eq]; exact HE.out, HM1.out.trans HM2.out fun k hk => .inr hk⟩
end Go.Proofs.YtegjamjognpdkaaGreat
namespace Go.Proofs.YtegjamjognpdkaaGreat
open Go.RowKit Go.Maps
set_option linter.unusedVariables false
set_option linter.unusedSimpArgs false
def keysOk (vs : List (Int × List TRow)) : Prop := ∀ p ∈ vs, 0 ≤ p.1 ∧ p.1 < 4294967296
theorem u32_wf {x : Int} (h : 0 ≤ x ∧ x < 4294967296) : (Lit.int .u32 x).wf = true := by
  simp [Lit.wf, IntKind.min, IntKind.max, IntKind.signed, IntKind.bits]
  omega
theorem TabIn.owns {w : World} {f : Nat → Prop} {tb mb : Nat} {now : Int} {vs : List (Int × List TRow)} {vbo : Int → Nat} {g : Int → Nat → Prop} (h : TabIn w f tb now vs mb vbo g) (hk : keysOk vs) (h8 : vs.length ≤ 8) :
    ∃ l : List (Lit × DataW Unit), w.ownsMap Tryz.prog 29 Rp mb vs.length (.map l) ∧ l.Perm ((verMap vs vbo).map enK) := by
  have hl : (verMap vs vbo).length = vs.length := by unfold verMap; simp
  obtain ⟨l, h1, h2⟩ := h.map.owns (H := Unit) (P := Tryz.prog) (kt := 29) Tryz.underlying29 (fun p hp => by
    obtain ⟨q, hq, rfl⟩ := List.mem_map.1 hp
    exact u32_wf (hk q hq)) (fun p hp => by
    obtain ⟨q, hq, rfl⟩ := List.mem_map.1 hp
    exact ⟨_, rfl⟩) (by rw [hl]; unfold maxLen; omega)
  rw [hl] at h1
  exact ⟨l, h1, h2⟩
set_option maxRecDepth 100000 in
set_option maxHeartbeats 4000000 in
theorem Versions_any {w : World} {f : Nat → Prop} {tb : Nat} {now : Int} {vs : List (Int × List TRow)} (h : TabAt w f tb now vs) (hk : keysOk vs) (h8 : vs.length ≤ 8) :
    Calls Tryz.prog 14 #[.pointer (some ⟨tb, 0, none⟩)] w fun e w' => ∃ v l, e = .returned v ∧ l.Perm (vs.map (·.1)) ∧ ordU l ∧ Row w' (fun k => w.heap.size ≤ k) 29 1 v l.length (l.map encU) ∧ Mod (fun _ => False) w w' := by
  obtain ⟨mb, vbo, g, h⟩ := h
  have hmf : ∀ (fn : Fn) (first cap : Array Value) (w : World), (Instr.makeFunc fn first cap).run Tryz.prog w = .ok (.func fn first cap) w := fun _ _ _ _ => rfl
  obtain ⟨l, hown, hl⟩ := h.owns hk h8
  have c0 := h.tab.cell (j := 0) rfl
  have hm0 : Mod (fun _ => False) w (w.alloc (.cells [Value.map (some mb)].toArray 57 (0, 0))) := (Mod.refl _ _).alloc _
  have hsz : Maps.size (DataW.map l) ≤ 8 := by have := hl.length_eq; unfold verMap at this; simp [Maps.size] at this ⊢; omega
  have hS := sortedU_any w.heap.size mb vs.length (.map l) Rp (w.alloc (.cells [Value.map (some mb)].toArray 57 (0, 0))) (by simp) ((Blk.new w 57 [.map (some mb)]).cell rfl) (hown.alloc _) hsz
  have hkp : (keysU (DataW.map l)).Perm (vs.map (·.1)) := by
    refine (hl.map fun p => litI p.1).trans (List.Perm.of_eq ?_)
    unfold verMap
    rw [List.map_map, List.map_map]
    exact List.map_congr_left fun p _ => rfl
  have HS := Lib.hid hS
  have HM0 := Lib.hid hm0
  have HKP := Lib.hid hkp
  clear hS hm0 hown hl hsz hkp h
  go_enter Tryz.func14, Tryz.ntmps14
  go_wp2_with (first | (go_at_call 31; go_in) | (go_at_call 30; refine HS.out.mono ?_; rintro e w1 ⟨v, l', rfl, hp, ho, hr, hm⟩))
  have HR := Lib.hid hr
  have HM := Lib.hid hm
  have HP := Lib.hid hp
  have HO := Lib.hid ho
  clear hr hm hp ho
  go_wp2
  go_ret
  exact ⟨v, l', rfl, HP.out.trans HKP.out, HO.out, HR.out.mono fun k hk => Nat.le_trans HM0.out.size hk, HM0.out.trans HM.out fun _ f => f.elim⟩
/-- which number is shown as current -/
def shV (now : Int) : Int := if 0 < now then curV now else 0
def isV (now : Int) : Bool := decide (0 < now)
set_option maxRecDepth 100000 in
/-- Current -/
theorem Current_any {w : World} {tb mb : Nat} {now : Int} (h : Blk w tb 65 [.map (some mb), .int .u64 now]) (h0 : 0 ≤ now) (h1 : now ≤ 4294967296) :
    Calls Tryz.prog 13 #[.pointer (some ⟨tb, 0, none⟩)] w fun e w' => e = .returned (.tuple #[.int .u32 (shV now), .bool (isV now)]) ∧ w' = w := by
  have HC := Lib.hid (current_any h h0 h1)
  have hnot : ∀ (x : Bool) (w : World), (Op.unary .not (.bool x)).run Tryz.prog w = .ok (.bool (!x)) w := fun _ _ => rfl
  clear h
  go_enter Tryz.func13, Tryz.ntmps13
  by_cases hn : 0 < now
  · have hd : decide (0 < now) = true := decide_eq_true hn
    have HE : Hid (shV now = curV now ∧ isV now = true) := Lib.hid ⟨if_pos hn, hd⟩
    clear hn
    go_wp2_with (go_at_call 25; refine HC.out.mono ?_; rintro e w' ⟨rfl, rfl⟩; rw [hd])
    go_ret2
    exact ⟨by rw [HE.out.1, HE.out.2]; rfl, rfl⟩
  · have hd : decide (0 < now) = false := decide_eq_false hn
    have HE : Hid (shV now = 0 ∧ isV now = false) := Lib.hid ⟨if_neg hn, hd⟩
    clear hn
    go_wp2_with (go_at_call 25; refine HC.out.mono ?_; rintro e w' ⟨rfl, rfl⟩; rw [hd])
    go_ret2
    exact ⟨by rw [HE.out.1, HE.out.2]; rfl, rfl⟩
/-- a store into the tables' second cell -/
theorem storeNow_any (a : Addr) (k x : Int) (w : World) (hc : w.cell? a = some (.int .u64 x)) (hz : w.frozen? a = false) :
    Calls Tryz.prog 26 #[.pointer (some a), .int .u64 k] w fun e w' => e = .returned (.tuple #[]) ∧ w' = w.setCell a (.int .u64 k) := by
  have hst := run_call_store (P := Tryz.prog) Tryz.func46 (by kernel_rfl) (by kernel_rfl) (by kernel_rfl) (by kernel_rfl) (k := .u64) (y := k) hc hz
  go_enter Tryz.func26, Tryz.ntmps26
  go_wp2
  go_end0
  exact ⟨rfl, rfl⟩
theorem TabIn.setNow {w : World} {f : Nat → Prop} {tb mb : Nat} {now k : Int} {vs : List (Int × List TRow)} {vbo : Int → Nat} {g : Int → Nat → Prop} (h : TabIn w f tb now vs mb vbo g) : TabIn (w.setCell ⟨tb, 1, none⟩ (.int .u64 k)) f tb k vs mb vbo g := by
  have hm : Mod (fun q => q = tb) w (w.setCell ⟨tb, 1, none⟩ (.int .u64 k)) := (Mod.refl (fun q => q = tb) w).setCell (p := ⟨tb, 1, none⟩) (.inl rfl) _
  exact ⟨h.tab.set 1 (.int .u64 k), h.map.keep hm h.ne, h.ne, h.ftb, h.fmb, fun p hp => (h.ver p hp).keep hm fun q hq e => (h.sub _ _ hq).2.1 e, h.sub, h.dis, h.keys⟩
/-- what Commit tells -/
def comC (vs : List (Int × List TRow)) (now v : Int) : Int :=
  if (hasV vs v).isNone then 8 else if isV now && (decide (v ≠ curV now) && aheadB now v) then 11 else 0
def comN (vs : List (Int × List TRow)) (now v : Int) : Int := if comC vs now v = 0 then v + 1 else now
set_option maxRecDepth 100000 in
set_option maxHeartbeats 4000000 in
theorem Commit_any {w : World} {f : Nat → Prop} {tb : Nat} {now v : Int} {vs : List (Int × List TRow)} (h : TabAt w f tb now vs) (h0 : 0 ≤ now) (h1 : now ≤ 4294967296) (hv : 0 ≤ v ∧ v < 4294967296) :
    Calls Tryz.prog 8 #[.pointer (some ⟨tb, 0, none⟩), .int .u32 v] w fun e w' => e = .returned (.int .i64 (comC vs now v)) ∧ TabAt w' f tb (comN vs now v) vs ∧ Mod f w w' := by
  obtain ⟨mb, vbo, g, h⟩ := h
  have hnot : ∀ (x : Bool) (w : World), (Op.unary .not (.bool x)).run Tryz.prog w = .ok (.bool (!x)) w := fun _ _ => rfl
  have HT := Lib.hid h
  have HC := Lib.hid (current_any h.tab h0 h1)
  have HAH := Lib.hid (ahead_any h.tab h0 h1 v)
  have c0 := h.tab.cell (j := 0) rfl
  have hlk := run_lookup_mp Tryz.underlying57 Tryz.underlying29 (fun w => (by kernel_rfl : (zeroValue 67).run Tryz.prog w = .ok (.pointer none) w)) h.map v false
  rw [mget_vs] at hlk
  have no : ∀ (c : Int), comC vs now v = c → c ≠ 0 → Ending.returned (.int .i64 c) = Ending.returned (.int .i64 (comC vs now v)) ∧ TabAt w f tb (comN vs now v) vs ∧ Mod f w w := by
    intro c hc hc0
    have e : comN vs now v = now := by unfold comN; rw [hc, if_neg hc0]
    rw [hc, e]
    exact ⟨rfl, ⟨_, _, _, h⟩, Mod.refl _ _⟩
  have NO := Lib.hid no
  clear h no
  cases hh : hasV vs v with
  | none =>
    rw [hh] at hlk
    simp only [Bool.false_eq_true, if_false, Option.map_none, Option.getD_none] at hlk
    have HH := Lib.hid hh
    clear hh
    go_enter Tryz.func8, Tryz.ntmps8
    go_wp2_with (go_at_call 25; refine HC.out.mono ?_; rintro e w' ⟨rfl, rfl⟩)
    go_ret
    exact NO.out _ (by unfold comC; rw [HH.out]; rfl) (by decide)
  | some rs =>
    rw [hh] at hlk
    simp only [Bool.false_eq_true, if_false, Option.map_some, Option.getD_some, verPtr] at hlk
    have HH := Lib.hid hh
    have hne := eql_ver (vbo v)
    clear hh
    have ewc : IntKind.u64.wrap (v + 1) = v + 1 := by rw [IntKind.wrap_u64]; omega
    have ewv : IntKind.u64.wrap v = v := by rw [IntKind.wrap_u64]; omega
    have HST := Lib.hid (storeNow_any ⟨tb, 1, none⟩ (v + 1) now w (HT.out.tab.cell rfl) (HT.out.tab.free 1))
    have yes : comC vs now v = 0 → Ending.returned (.int .i64 0) = Ending.returned (.int .i64 (comC vs now v)) ∧ TabAt (w.setCell ⟨tb, 1, none⟩ (.int .u64 (v + 1))) f tb (comN vs now v) vs ∧ Mod f w (w.setCell ⟨tb, 1, none⟩ (.int .u64 (v + 1))) := by
      intro hc
      have e : comN vs now v = v + 1 := by unfold comN; rw [if_pos hc]
      rw [hc, e]
      exact ⟨rfl, ⟨_, _, _, HT.out.setNow⟩, (Mod.refl f w).setCell (p := ⟨tb, 1, none⟩) (.inl HT.out.ftb) _⟩
    have YES := Lib.hid yes
    clear yes
    by_cases hn : 0 < now
    · have hd : decide (0 < now) = true := decide_eq_true hn
      have HD : Hid (isV now = true) := Lib.hid hd
      clear hn
      by_cases hvc : v = curV now
      · have hdc : decide (v = curV now) = true := decide_eq_true hvc
        have HDC : Hid (decide (v ≠ curV now) = false) := Lib.hid (by simp [hvc])
        have hbq : (v != curV now) = false := by simp [hvc]
        clear hvc
        go_enter Tryz.func8, Tryz.ntmps8
        go_wp2_with (first | (go_at_call 25; refine HC.out.mono ?_; rintro e w' ⟨rfl, rfl⟩; rw [hd]) | (go_at_call 26; refine HST.out.mono ?_; rintro e w' ⟨rfl, rfl⟩))
        go_ret
        exact YES.out (by unfold comC; rw [HH.out, HD.out, HDC.out]; rfl)
      · have HDC : Hid (decide (v ≠ curV now) = true) := Lib.hid (by simp [hvc])
        have hbq : (v != curV now) = true := by simp [hvc]
        cases ha : aheadB now v with
        | true =>
          rw [ha] at HAH
          have HA := Lib.hid ha
          clear ha hvc
          go_enter Tryz.func8, Tryz.ntmps8
          go_wp2_with (first | (go_at_call 25; refine HC.out.mono ?_; rintro e w' ⟨rfl, rfl⟩; rw [hd]) | (go_at_call 21; refine HAH.out.mono ?_; rintro e w' ⟨rfl, rfl⟩))
          go_ret
          exact NO.out _ (by unfold comC; rw [HH.out, HD.out, HDC.out, HA.out]; rfl) (by decide)
        | false =>
          rw [ha] at HAH
          have HA := Lib.hid ha
          clear ha hvc
          go_enter Tryz.func8, Tryz.ntmps8
          go_wp2_with (first | (go_at_call 25; refine HC.out.mono ?_; rintro e w' ⟨rfl, rfl⟩; rw [hd]) | (go_at_call 21; refine HAH.out.mono ?_; rintro e w' ⟨rfl, rfl⟩) | (go_at_call 26; refine HST.out.mono ?_; rintro e w' ⟨rfl, rfl⟩))
          go_ret
          exact YES.out (by unfold comC; rw [HH.out, HD.out, HDC.out, HA.out]; rfl)
    · have hd : decide (0 < now) = false := decide_eq_false hn
      have HD : Hid (isV now = false) := Lib.hid hd
      clear hn
      go_enter Tryz.func8, Tryz.ntmps8
      go_wp2_with (first | (go_at_call 25; refine HC.out.mono ?_; rintro e w' ⟨rfl, rfl⟩; rw [hd]) | (go_at_call 26; refine HST.out.mono ?_; rintro e w' ⟨rfl, rfl⟩))
      go_ret
      exact YES.out (by unfold comC; rw [HH.out, HD.out]; rfl)
end Go.Proofs.YtegjamjognpdkaaGreat
namespace Go.Proofs.YtegjamjognpdkaaGreat
open Go.RowKit Go.Maps
set_option linter.unusedVariables false
set_option linter.unusedSimpArgs false
def retB (v now : Int) (is : Bool) (x : Int) : Bool := decide (0 < Sr.gap x v) && !(is && decide (x = now))
theorem retire1_any (v now : Int) (is : Bool) (pv pi pn : Nat) (x : Int) (u : Value) (w : World) (hv : w.cell? ⟨pv, 0, none⟩ = some (.int .u32 v)) (hi : w.cell? ⟨pi, 0, none⟩ = some (.bool is)) (hn : w.cell? ⟨pn, 0, none⟩ = some (.int .u32 now)) :
    Calls Tryz.prog 28 (#[.int .u32 x, u] ++ #[.pointer (some ⟨pv, 0, none⟩), .pointer (some ⟨pi, 0, none⟩), .pointer (some ⟨pn, 0, none⟩)]) w fun e w' => e = .returned (.bool (retB v now is x)) ∧ w' = w := by
  have hnot : ∀ (x : Bool) (w : World), (Op.unary .not (.bool x)).run Tryz.prog w = .ok (.bool (!x)) w := fun _ _ => rfl
  show Calls Tryz.prog 28 #[.int .u32 x, u, .pointer (some ⟨pv, 0, none⟩), .pointer (some ⟨pi, 0, none⟩), .pointer (some ⟨pn, 0, none⟩)] w _
  go_enter Tryz.func28, Tryz.ntmps28
  by_cases hg : 0 < Sr.gap x v
  · have hd : decide (0 < Sr.gap x v) = true := decide_eq_true hg
    cases is with
    | true =>
      go_wp2_with (go_at_call 29; refine (Less_any _ _ _).mono ?_; rintro e w' ⟨rfl, rfl⟩; rw [hd])
      go_ret
      exact ⟨by unfold retB; rw [hd]; rfl, rfl⟩
    | false =>
      go_wp2_with (go_at_call 29; refine (Less_any _ _ _).mono ?_; rintro e w' ⟨rfl, rfl⟩; rw [hd])
      go_ret
      exact ⟨by unfold retB; rw [hd]; rfl, rfl⟩
  · have hd : decide (0 < Sr.gap x v) = false := decide_eq_false hg
    go_wp2_with (go_at_call 29; refine (Less_any _ _ _).mono ?_; rintro e w' ⟨rfl, rfl⟩; rw [hd])
    go_ret
    exact ⟨by unfold retB; rw [hd]; rfl, rfl⟩
set_option maxHeartbeats 4000000 in
set_option maxRecDepth 100000 in
theorem delf_any (pd : Lit → DataW Unit → Bool) (cb : Array Value) (b n : Nat) (D : DataW Unit) (w : World) (hown : w.ownsMap Tryz.prog 29 Rp b n D)
    (hdel : ∀ (W : World) (key val : Value) (kl : Lit) (yd : DataW Unit) (yp : List MemPlace), w.grownBy W (some b) → keyOf Tryz.prog 29 key = some kl → Rp val = some (yd, yp) →
      Calls Tryz.prog 28 (#[key, val] ++ cb) W fun e w' => e = .returned (.bool (pd kl yd)) ∧ W.grownBy w' none) :
    Calls Tryz.prog 27 #[.map (some b), .func (.func 28) #[] cb] w fun e w' => e = .returned (.tuple #[]) ∧ w'.ownsMap Tryz.prog 29 Rp b n (Lib.deleteFuncD pd D) ∧ w.grownBy w' (some b) := by
  have K : Keyed Tryz.prog 29 := int_keyed Tryz.underlying29
  obtain ⟨es0, rfl, hap, hkeys⟩ := hown.entries K
  have HD : Hid _ := Lib.hid hdel
  clear hdel
  go_enter Tryz.func27, Tryz.ntmps27
  go_wp2_with (first
    | (at_range; refine wpList_range_own _ rfl _ 57 rfl 29 67 K Tryz.underlying57 Rp b n _ rfl hown ?_; intro w0 hrg0 hg0 hs0)
    | go_in)
  go_frame
  go_loopw [8] (fun _ wr => ∃ (left : Lit → Bool) (cnt : Nat), wr.ranges Tryz.prog 29 Rp b w.heap.size n (Fk pd es0 left) left cnt ∧ w.grownBy wr (some b))
    (fun _ wr => wr.rangeLeft b w.heap.size)
  case atStart => exact ⟨_, _, by rw [Fk_start hkeys]; exact hrg0, hg0.but _⟩
  case round =>
    obtain ⟨left, cnt, hrg, hgw⟩ := hrel
    go_wp2_with (first
      | (at_next; refine wpList_next_ranges _ rfl _ rfl 29 K Rp id id (fun key _ _ => ⟨key, rfl⟩) (fun v _ _ => ⟨v, rfl⟩) b w.heap.size n _ _ _ rfl hrg ?_ ?_)
      | go_in)
    · -- nothing is left
      intro _ hl0
      go_wp2
      go_end0
      exact ⟨rfl, by rw [← Fk_end hl0]; exact hrg.owns, hgw⟩
    · -- an entry has come
      intro x c kl yd yp w1 cnt1 hkey hlx hv hat hrg1 hlt hg1 hs1 hen
      have hgw1 := hgw.andThen hg1 (fun j hj => by cases hj; exact Or.inl (Nat.le_refl _))
      have hc := HD.out w1 x c kl yd yp hgw1 hkey hv
      have hbl := hrg1.owns.lt
      have hrl := hrg1.lt
      cases hp : pd kl yd <;> rw [hp] at hc
      · -- it stays
        go_wp2_with (first
          | (go_at_call 28; refine hc.mono ?_; rintro e w2 ⟨rfl, hg2⟩)
          | go_in)
        have hrg2 := hrg1.kept hg2 (by simp) (by simp)
        go_roundw
        case rel => exact ⟨_, cnt1, by rw [← Fk_stays hap (K.key hkey) hlx hp hat]; exact hrg2, hgw1.andThen hg2 (fun j hj => by cases hj)⟩
        case measure => rw [hrg2.left_eq, hrg.left_eq]; exact hlt
      · -- struck
        go_wp2_with (first
          | (go_at_call 28; refine hc.mono ?_; rintro e w2 ⟨rfl, hg2⟩; have hrg2 := hrg1.kept hg2 (by simp) (by simp))
          | (at_delete; refine wpList_delete_ranges _ rfl _ _ 57 29 rfl 67 K Tryz.underlying57 Rp b w.heap.size n _ _ _ rfl hrg2 _ _ rfl hkey ?_; intro w3 cnt3 hrg3 hle hturn; go_frame)
          | go_in)
        rw [strike_twice] at hrg3
        go_roundw
        case rel => exact ⟨_, cnt3, by rw [← Fk_struck hap (K.key hkey) hlx hp hat]; exact hrg3, (hgw1.andThen hg2 (fun j hj => by cases hj)).andThen hturn.grown (fun j hj => by cases hj; exact Or.inr rfl)⟩
        case measure => rw [hrg3.left_eq, hrg.left_eq]; omega
end Go.Proofs.YtegjamjognpdkaaGreat
namespace Go.Proofs.YtegjamjognpdkaaGreat
open Go.RowKit Go.Maps Go.MapKept
set_option linter.unusedVariables false
set_option linter.unusedSimpArgs false
theorem run_clear_mp {P : Program} {t kt et : TypeId} {q : IntKind} (ht : P.underlying t = some (.map kt et)) {w : World} {b : Nat} {m : List (Int × Value)} (h : Mp w b q m) :
    ∃ w', (∀ ty, (Builtin.clear_ #[t] ty #[.map (some b)]).run P w = .ok (.tuple #[]) w') ∧ Mp w' b q [] ∧ Mod (fun x => x = b) w w' := by
  obtain ⟨es, c, hb, hx, hst⟩ := h
  refine ⟨{ w with heap := w.heap.setIfInBounds b (.map #[] c) }, fun ty => by simp [Builtin.clear_, run_underlying ht, MapKept.run_getObj_map hb, MapKept.run_setObj_map _ hb, Result.andThen], ⟨_, _, (heap_set hb).1, rfl, MapKept.stamped_empty _⟩, ⟨rfl, rfl, rfl, by simp, fun k' _ hk' => (heap_set hb).2 k' hk'⟩⟩
set_option maxRecDepth 100000 in
set_option maxHeartbeats 4000000 in
theorem Clear_any {w : World} {f : Nat → Prop} {tb : Nat} {now : Int} {vs : List (Int × List TRow)} (h : TabAt w f tb now vs) (h8 : vs.length ≤ 8) :
    Calls Tryz.prog 12 #[.pointer (some ⟨tb, 0, none⟩)] w fun e w' => e = .returned (.int .i64 (vs.length : Int)) ∧ TabAt w' f tb 0 [] ∧ Mod f w w' := by
  obtain ⟨mb, vbo, g, h⟩ := h
  have hvl : (verMap vs vbo).length = vs.length := by unfold verMap; simp
  have hll := run_len_mp (P := Tryz.prog) (ty := 3) Tryz.underlying57 h.map
  rw [hvl] at hll
  obtain ⟨w1, hcl, hmp, hm1⟩ := run_clear_mp (P := Tryz.prog) Tryz.underlying57 h.map
  have c0 := h.tab.cell (j := 0) rfl
  have ht1 := h.tab.keep hm1 (fun e => h.ne e.symm)
  have c1 : w1.cell? ⟨tb, 0, none⟩ = some (.map (some mb)) := ht1.cell (j := 0) rfl
  have HST := Lib.hid (storeNow_any ⟨tb, 1, none⟩ 0 now w1 (ht1.cell rfl) (ht1.free 1))
  have hm2 : Mod (fun q => q = tb) w1 (w1.setCell ⟨tb, 1, none⟩ (.int .u64 0)) := (Mod.refl (fun q => q = tb) w1).setCell (p := ⟨tb, 1, none⟩) (.inl rfl) _
  have HE : Hid (TabAt (w1.setCell ⟨tb, 1, none⟩ (.int .u64 0)) f tb 0 []) := Lib.hid (TabAt.new (ht1.set 1 (.int .u64 0)) (hmp.keep hm2 h.ne) h.ne f h.ftb h.fmb)
  have HM : Hid (Mod f w (w1.setCell ⟨tb, 1, none⟩ (.int .u64 0))) := Lib.hid ((hm1.mono fun q hq => .inl (by rw [show q = mb from hq]; exact h.fmb)).trans hm2 fun q hq => .inl (by rw [show q = tb from hq]; exact h.ftb))
  clear h hvl hmp hm1 hm2 ht1
  go_enter Tryz.func12, Tryz.ntmps12
  go_wp2_with (go_at_call 26; refine HST.out.mono ?_; rintro e w' ⟨rfl, rfl⟩)
  go_ret
  exact ⟨rfl, HE.out, HM.out⟩
theorem Mod.ofGrown {w w' : World} {b : Nat} (h : w.grownBy w' (some b)) : Mod (fun q => q = b) w w' := ⟨h.os, h.tape, h.output, h.size, fun k hk hn => h.block k hk (fun e => hn (by cases e; rfl))⟩
theorem retired {vs : List (Int × List TRow)} {vbo : Int → Nat} {l : List (Lit × DataW Unit)} {m : List (Int × Value)} {p : Int → Bool} (hl : l.Perm ((verMap vs vbo).map enK)) (hm : (m.map enK).Perm (l.filter fun q => p (litI q.1))) (hv : ∀ q ∈ m, (Lit.int .u32 q.1).wf = true ∧ PtrV q.2) :
    ∃ vs', (vs.filter fun q => p q.1).Perm vs' ∧ verMap vs' vbo = m := by
  have h1 : ((verMap vs vbo).map (enK (H := Unit))).filter (fun q => p (litI q.1)) = (verMap (vs.filter fun q => p q.1) vbo).map enK := by
    unfold verMap
    rw [List.map_map, List.map_map, List.filter_map]
    rfl
  have h2 : (m.map (enK (H := Unit))).Perm ((verMap (vs.filter fun q => p q.1) vbo).map enK) := hm.trans (h1 ▸ hl.filter _)
  have h3 := h2.map deK
  rw [decoded (fun q hq => (hv q hq).2), decoded (fun q hq => by
    obtain ⟨r, _, rfl⟩ := List.mem_map.1 hq
    exact ⟨_, rfl⟩)] at h3
  exact perm_unmap m _ h3.symm
theorem TabIn.retire {w w' : World} {f : Nat → Prop} {tb mb : Nat} {now : Int} {vs vs' : List (Int × List TRow)} {vbo : Int → Nat} {g : Int → Nat → Prop} {p : Int → Bool} (h : TabIn w f tb now vs mb vbo g) (hp : (vs.filter fun q => p q.1).Perm vs') (hmp : Mp w' mb .u32 (verMap vs' vbo)) (hm : Mod (fun q => q = mb) w w') :
    TabAt w' f tb now vs' := by
  have hsub : ∀ q ∈ vs', q ∈ vs := fun q hq => (List.mem_filter.1 (hp.mem_iff.2 hq)).1
  refine ⟨mb, vbo, g, h.tab.keep hm (fun e => h.ne e.symm), hmp, h.ne, h.ftb, h.fmb, fun q hq => (h.ver q (hsub q hq)).keep hm fun k hk e => (h.sub _ _ hk).2.2 e, h.sub, h.dis, ?_⟩
  exact (hp.map (·.1)).nodup_iff.1 (List.Nodup.sublist (List.Sublist.map _ List.filter_sublist) h.keys)
set_option maxRecDepth 100000 in
set_option maxHeartbeats 4000000 in
theorem Retire_any {w : World} {f : Nat → Prop} {tb : Nat} {now v : Int} {vs : List (Int × List TRow)} (h : TabAt w f tb now vs) (hk : keysOk vs) (h0 : 0 ≤ now) (h1 : now ≤ 4294967296) (h8 : vs.length ≤ 8) :
    Calls Tryz.prog 10 #[.pointer (some ⟨tb, 0, none⟩), .int .u32 v] w fun e w' => ∃ vs', e = .returned (.int .i64 ((vs.length : Int) - (vs'.length : Int))) ∧ vs'.Perm (vs.filter fun p => !retB v (curV now) (isV now) p.1) ∧ TabAt w' (fun k => f k ∨ w.heap.size ≤ k) tb now vs' ∧ Mod f w w' := by
  obtain ⟨mb, vbo, g, h⟩ := h
  have hmf : ∀ (fn : Fn) (first cap : Array Value) (w : World), (Instr.makeFunc fn first cap).run Tryz.prog w = .ok (.func fn first cap) w := fun _ _ _ _ => rfl
  have hm0 : Mod (fun _ => False) w (w.alloc (.cells [Value.int .u32 v].toArray 29 (0, 0))) := (Mod.refl _ _).alloc _
  have hh := h.keep hm0 fun k _ f => f
  have hvl : (verMap vs vbo).length = vs.length := by unfold verMap; simp
  have hll := run_len_mp (P := Tryz.prog) (ty := 3) Tryz.underlying57 hh.map
  rw [hvl] at hll
  have c0 := hh.tab.cell (j := 0) rfl
  have HC := Lib.hid (current_any hh.tab h0 h1)
  have hm3 : Mod (fun _ => False) w (((w.alloc (.cells [Value.int .u32 v].toArray 29 (0, 0))).alloc (.cells [Value.int .u32 (curV now)].toArray 29 (0, 0))).alloc (.cells [Value.bool (decide (0 < now))].toArray 4 (0, 0))) := ((hm0.alloc _).alloc _)
  have h3 := h.keep hm3 fun k _ f => f
  have c3 := h3.tab.cell (j := 0) rfl
  obtain ⟨l, hown, hl⟩ := h3.owns hk h8
  have hB1 := ((Blk.new w 29 [.int .u32 v]).alloc (.cells [Value.int .u32 (curV now)].toArray 29 (0, 0))).alloc (.cells [Value.bool (decide (0 < now))].toArray 4 (0, 0))
  have hB2 := (Blk.new (w.alloc (.cells [Value.int .u32 v].toArray 29 (0, 0))) 29 [.int .u32 (curV now)]).alloc (.cells [Value.bool (decide (0 < now))].toArray 4 (0, 0))
  have hB3 := Blk.new ((w.alloc (.cells [Value.int .u32 v].toArray 29 (0, 0))).alloc (.cells [Value.int .u32 (curV now)].toArray 29 (0, 0))) 4 [.bool (decide (0 < now))]
  rw [show (w.alloc (.cells [Value.int .u32 v].toArray 29 (0, 0))).heap.size = w.heap.size + 1 by simp] at hB2
  rw [show ((w.alloc (.cells [Value.int .u32 v].toArray 29 (0, 0))).alloc (.cells [Value.int .u32 (curV now)].toArray 29 (0, 0))).heap.size = w.heap.size + 1 + 1 by simp] at hB3
  have HDF : Hid (Calls Tryz.prog 27 #[.map (some mb), .func (.func 28) #[] #[.pointer (some ⟨w.heap.size, 0, none⟩), .pointer (some ⟨w.heap.size + 1 + 1, 0, none⟩), .pointer (some ⟨w.heap.size + 1, 0, none⟩)]] (((w.alloc (.cells [Value.int .u32 v].toArray 29 (0, 0))).alloc (.cells [Value.int .u32 (curV now)].toArray 29 (0, 0))).alloc (.cells [Value.bool (decide (0 < now))].toArray 4 (0, 0))) fun e w' => e = .returned (.tuple #[]) ∧ w'.ownsMap Tryz.prog 29 Rp mb vs.length (Lib.deleteFuncD (fun kl _ => retB v (curV now) (decide (0 < now)) (litI kl)) (.map l)) ∧ (((w.alloc (.cells [Value.int .u32 v].toArray 29 (0, 0))).alloc (.cells [Value.int .u32 (curV now)].toArray 29 (0, 0))).alloc (.cells [Value.bool (decide (0 < now))].toArray 4 (0, 0))).grownBy w' (some mb)) := by
    refine Lib.hid (delf_any (fun kl _ => retB v (curV now) (decide (0 < now)) (litI kl)) _ mb vs.length (.map l) _ hown ?_)
    intro W key val kl yd yp hg hkey hval
    obtain ⟨x, rfl, rfl, _⟩ := keyOf_u Tryz.underlying29 hkey
    have hmb := h.map.lt
    have far : ∀ {p : Nat} {u : Value}, (((w.alloc (.cells [Value.int .u32 v].toArray 29 (0, 0))).alloc (.cells [Value.int .u32 (curV now)].toArray 29 (0, 0))).alloc (.cells [Value.bool (decide (0 < now))].toArray 4 (0, 0))).cell? ⟨p, 0, none⟩ = some u → p ≠ mb → W.cell? ⟨p, 0, none⟩ = some u := fun {p u} hc hne => by
      have hp := World.block_lt_of_cell? _ _ hc
      have := hg.block p hp (fun e => hne (by cases e; rfl))
      unfold World.cell? at hc ⊢
      simp only [Option.isSome_none, Bool.false_eq_true, if_false] at hc ⊢
      rw [this]
      exact hc
    refine (retire1_any v (curV now) (decide (0 < now)) w.heap.size (w.heap.size + 1 + 1) (w.heap.size + 1) x val W (far (hB1.cell rfl) (by omega)) (far (hB3.cell rfl) (by omega)) (far (hB2.cell rfl) (by omega))).mono ?_
    rintro e w' ⟨rfl, rfl⟩
    exact ⟨rfl, World.grownBy.refl _ _⟩
  have H3 := Lib.hid h3
  have HL := Lib.hid hl
  have HM3 := Lib.hid hm3
  clear hvl hown hl hB1 hB2 hB3 h h3 hh hm0 hm3
  go_enter Tryz.func10, Tryz.ntmps10
  go_wp2_with (go_at_call 25; refine HC.out.mono ?_; rintro e w' ⟨rfl, rfl⟩)
  refine HDF.out.mono ?_
  rintro e w4 ⟨rfl, hown4, hg4⟩
  have hm4 : Mod (fun q => q = mb) _ w4 := Mod.ofGrown hg4
  obtain ⟨m, hmp, hmp2, hmv⟩ := Mp.ofOwns (P := Tryz.prog) (kt := 29) Tryz.underlying29 (show w4.ownsMap Tryz.prog 29 Rp mb vs.length (.map (l.filter fun p => !retB v (curV now) (decide (0 < now)) (litI p.1))) from hown4)
  obtain ⟨vs', hvp, hve⟩ := retired (p := fun k => !retB v (curV now) (decide (0 < now)) k) HL.out hmp2 hmv
  subst hve
  have HT4 := Lib.hid (H3.out.retire (p := fun k => !retB v (curV now) (decide (0 < now)) k) hvp hmp hm4)
  have c4 : w4.cell? ⟨tb, 0, none⟩ = some (.map (some mb)) := (H3.out.tab.keep hm4 (fun e => H3.out.ne e.symm)).cell (j := 0) rfl
  have hll4 := run_len_mp (P := Tryz.prog) (ty := 3) Tryz.underlying57 hmp
  rw [show (verMap vs' vbo).length = vs'.length by unfold verMap; simp] at hll4
  have hle : vs'.length ≤ vs.length := by rw [← hvp.length_eq]; exact List.length_filter_le _ _
  have hwr : IntKind.i64.wrap ((vs.length : Int) - (vs'.length : Int)) = (vs.length : Int) - (vs'.length : Int) := IntWalk.i64_in _ (by omega)
  have HM4 : Hid (Mod f w w4) := Lib.hid ((HM3.out.mono fun _ f => f.elim).trans hm4 fun q hq => .inl (by rw [show q = mb from hq]; exact H3.out.fmb))
  have HVP := Lib.hid hvp
  clear hmp hmp2 hmv hm4 hown4 hg4 hvp hle
  go_wp2
  go_ret
  exact ⟨vs', rfl, HVP.out.symm, HT4.out.mono fun k hk _ => .inl hk, HM4.out⟩
end Go.Proofs.YtegjamjognpdkaaGreat
namespace Go.Proofs.YtegjamjognpdkaaGreat
open Go.RowKit
set_option linter.unusedVariables false
set_option linter.unusedSimpArgs false
structure RelT (vs : List (Int × List TRow)) (es : List VE) (now nowR : Int) (is : Bool) : Prop where
  perm : (esV es).Perm vs
  sorted : es.Pairwise fun a b => a.n < b.n
  keys : ∀ e ∈ es, 0 ≤ e.n ∧ e.n < 4294967296
  n0 : 0 ≤ now
  n1 : now ≤ 4294967296
  hnow : nowR = shV now
  his : is = isV now
  len : es.length ≤ 8
  cur : 0 < now → (hasV vs (curV now)).isSome = true
theorem curV_bd (now : Int) : 0 ≤ curV now ∧ curV now < 4294967296 := by unfold curV; omega
theorem RelT.bd {vs : List (Int × List TRow)} {es : List VE} {now nowR : Int} {is : Bool} (h : RelT vs es now nowR is) : 0 ≤ nowR ∧ nowR < 4294967296 := by
  rw [h.hnow]
  unfold shV
  split
  · exact curV_bd now
  · omega
theorem esV_keys (es : List VE) : (esV es).map (·.1) = es.map (·.n) := by
  unfold esV
  rw [List.map_map]
  rfl
theorem RelT.nodupE {vs : List (Int × List TRow)} {es : List VE} {now nowR : Int} {is : Bool} (h : RelT vs es now nowR is) : ((esV es).map (·.1)).Nodup := by
  rw [esV_keys]
  refine List.pairwise_map.2 (h.sorted.imp fun {a b} hab e => ?_)
  have : a.n < b.n := hab
  omega
theorem hasV_of_mem {vs : List (Int × List TRow)} (hn : (vs.map (·.1)).Nodup) {v : Int} {rs : List TRow} (h : (v, rs) ∈ vs) : hasV vs v = some rs := by
  induction vs with
  | nil => cases h
  | cons p vs ih =>
    unfold hasV
    rw [List.find?_cons]
    rw [List.map_cons, List.nodup_cons] at hn
    rcases List.mem_cons.1 h with rfl | h
    · simp
    · have hne : ¬ p.1 = v := fun e => hn.1 (by rw [e]; exact List.mem_map_of_mem (f := (·.1)) h)
      have hb : (p.1 == v) = false := by simp [hne]
      rw [hb]
      exact ih hn.2 h
theorem hasV_perm {vs vs' : List (Int × List TRow)} (h : vs.Perm vs') (hn : (vs.map (·.1)).Nodup) (v : Int) : hasV vs v = hasV vs' v := by
  have hn' : (vs'.map (·.1)).Nodup := (h.map (·.1)).nodup_iff.1 hn
  cases h1 : hasV vs v with
  | some rs => exact (hasV_of_mem hn' (h.mem_iff.1 (hasV_mem h1))).symm
  | none =>
    cases h2 : hasV vs' v with
    | none => rfl
    | some rs =>
      rw [hasV_of_mem hn (h.mem_iff.2 (hasV_mem h2))] at h1
      cases h1
section
variable {vs : List (Int × List TRow)} {es : List VE} {now nowR : Int} {is : Bool}
theorem RelT.has (h : RelT vs es now nowR is) (v : Int) : hasV vs v = hasV (esV es) v := (hasV_perm h.perm h.nodupE v).symm
theorem RelT.lenV (h : RelT vs es now nowR is) : vs.length = es.length := by
  rw [← h.perm.length_eq]
  unfold esV
  simp
theorem RelT.keysV (h : RelT vs es now nowR is) : keysOk vs := fun p hp => by
  obtain ⟨e, he, rfl⟩ := List.mem_map.1 (h.perm.mem_iff.2 hp)
  exact h.keys e he
theorem has_idx (es : List VE) (v : Int) : (hasV (esV es) v).isSome = (idxV es v).isSome := by
  rw [hasV_es]
  cases h : idxV es v with
  | none => rfl
  | some i =>
    obtain ⟨e, he, _⟩ := idxV_some h
    rw [Option.bind_some, he]
    rfl
theorem find_has (es : List VE) (v : Int) : (0 ≤ findI es v) ↔ (hasV (esV es) v).isSome = true := by
  rw [has_idx]
  unfold findI
  cases h : idxV es v with
  | none => simp
  | some i => simp
theorem RelT.find (h : RelT vs es now nowR is) (v : Int) : (0 ≤ findI es v) ↔ (hasV vs v).isSome = true := by rw [h.has v]; exact find_has es v
theorem RelT.ahead (h : RelT vs es now nowR is) (v : Int) : aheadB now v = (is && decide (Sr.gap nowR v ≤ 0)) := by
  unfold aheadB
  rw [h.his, h.hnow]
  unfold isV shV
  by_cases hn : 0 < now
  · rw [decide_eq_true hn, if_pos hn]
    by_cases hg : 0 < Sr.gap (curV now) v
    · rw [decide_eq_true hg, decide_eq_false (by omega)]; rfl
    · rw [decide_eq_false hg, decide_eq_true (by omega)]; rfl
  · rw [decide_eq_false hn]; rfl
theorem RelT.instC (h : RelT vs es now nowR is) (v : Int) (l : List TRow) : instC vs now v l = rinsC es nowR is v l := by
  unfold Go.Proofs.YtegjamjognpdkaaGreat.instC rinsC
  rw [h.ahead v, h.lenV]
  by_cases hg : goodT l = false
  · rw [if_pos hg, if_pos hg]
  · rw [if_neg hg, if_neg hg]
    by_cases hf : (hasV vs v).isSome = true
    · rw [if_pos hf, if_pos ((h.find v).2 hf)]
    · rw [if_neg hf, if_neg fun x => hf ((h.find v).1 x)]
theorem atV_sorted : ∀ {es : List VE} {v : Int}, (es.Pairwise fun a b => a.n < b.n) → (∀ e ∈ es, e.n ≠ v) → (∀ e ∈ es.take (atV es v), e.n < v) ∧ (∀ e ∈ es.drop (atV es v), v < e.n)
  | [], _, _, _ => ⟨fun e he => by simp at he, fun e he => by simp at he⟩
  | x :: es, v, hs, hv => by
    rw [List.pairwise_cons] at hs
    unfold atV
    split
    · rename_i hx
      obtain ⟨h1, h2⟩ := atV_sorted hs.2 fun e he => hv e (List.mem_cons_of_mem _ he)
      refine ⟨fun e he => ?_, fun e he => h2 e (by simpa using he)⟩
      rw [List.take_succ_cons, List.mem_cons] at he
      rcases he with rfl | he
      · exact hx
      · exact h1 e he
    · rename_i hx
      have hx' : v < x.n := by have := hv x List.mem_cons_self; omega
      refine ⟨fun e he => by simp at he, fun e he => ?_⟩
      rw [List.drop_zero] at he
      rcases List.mem_cons.1 he with rfl | he
      · exact hx'
      · have := hs.1 e he; omega
theorem RelT.install (h : RelT vs es now nowR is) {v : Int} (hv : 0 ≤ v ∧ v < 4294967296) (l : List TRow) (rv : Value) : RelT (instV vs now v l) (if rinsC es nowR is v l = 0 then insE es v l rv else es) now nowR is := by
  unfold instV
  rw [h.instC v l]
  by_cases hc : rinsC es nowR is v l = 0
  · rw [if_pos hc, if_pos hc]
    have hno : hasV vs v = none := by
      unfold rinsC at hc
      split at hc
      · cases hc
      · split at hc
        · cases hc
        · rename_i hf
          cases hh : hasV vs v with
          | none => rfl
          | some rs => exact absurd ((h.find v).2 (by rw [hh]; rfl)) hf
    have hl8 : ¬ 8 ≤ es.length := by
      unfold rinsC at hc
      split at hc
      · cases hc
      · split at hc
        · cases hc
        · split at hc
          · cases hc
          · split at hc
            · cases hc
            · assumption
    have hne : ∀ e ∈ es, e.n ≠ v := fun e he e1 => by
      have := hasV_of_mem h.nodupE (show (v, e.rs) ∈ esV es by rw [← e1]; exact List.mem_map_of_mem (f := fun e : VE => (e.n, e.rs)) he)
      rw [← h.has v, hno] at this
      cases this
    obtain ⟨h1, h2⟩ := atV_sorted h.sorted hne
    have hp : (esV (insE es v l rv)).Perm (vs ++ [(v, l)]) := by
      refine List.Perm.trans ?_ (h.perm.append_right _)
      unfold insE esV
      rw [List.map_append, List.map_cons]
      refine List.perm_middle.trans ?_
      rw [← List.map_append, List.take_append_drop]
      exact List.perm_append_comm (l₁ := [(v, l)])
    refine ⟨hp, ?_, fun e he => ?_, h.n0, h.n1, h.hnow, h.his, ?_, fun hn => ?_⟩
    · unfold insE
      refine List.pairwise_append.2 ⟨h.sorted.sublist (List.take_sublist _ _), List.pairwise_cons.2 ⟨fun e he => h2 e he, h.sorted.sublist (List.drop_sublist _ _)⟩, fun a ha b hb => ?_⟩
      rcases List.mem_cons.1 hb with rfl | hb
      · exact h1 a ha
      · have := h1 a ha
        have := h2 b hb
        omega
    · unfold insE at he
      rw [List.mem_append, List.mem_cons] at he
      rcases he with he | rfl | he
      · exact h.keys e (List.mem_of_mem_take he)
      · exact hv
      · exact h.keys e (List.mem_of_mem_drop he)
    · unfold insE
      rw [List.length_append, List.length_cons, List.length_take, List.length_drop]
      have := atV_le es v
      omega
    · have := h.cur hn
      unfold hasV at this ⊢
      rw [List.find?_append]
      rw [Option.isSome_map] at this ⊢
      rw [Option.isSome_or, this]
      rfl
  · rw [if_neg hc, if_neg hc]
    exact h
theorem RelT.comC (h : RelT vs es now nowR is) (v : Int) : comC vs now v = rcomC es nowR is v := by
  unfold Go.Proofs.YtegjamjognpdkaaGreat.comC rcomC
  rw [h.ahead v]
  have hf : (hasV vs v).isNone = true ↔ findI es v < 0 := by
    have := h.find v
    rw [Option.isNone_iff_eq_none]
    constructor
    · intro e
      rw [e] at this
      simp at this
      omega
    · intro e
      cases hh : hasV vs v with
      | none => rfl
      | some rs => rw [hh] at this; simp at this; omega
  by_cases h1 : findI es v < 0
  · rw [if_pos (hf.2 h1), if_pos h1]
  · rw [if_neg fun x => h1 (hf.1 x), if_neg h1, ← h.his]
    cases hi : is with
    | false => rfl
    | true =>
      have hn : nowR = curV now := by
        rw [h.hnow]
        have := h.his
        rw [hi] at this
        unfold isV at this
        unfold shV
        rw [if_pos (of_decide_eq_true this.symm)]
      rw [hn]
      rfl
theorem curV_succ {v : Int} (hv : 0 ≤ v ∧ v < 4294967296) : curV (v + 1) = v := by unfold curV; omega
theorem RelT.commit (h : RelT vs es now nowR is) {v : Int} (hv : 0 ≤ v ∧ v < 4294967296) : RelT vs es (comN vs now v) (rcomN es nowR is v) (rcomI es nowR is v) ∧ (is = true → rcomN es nowR is v ≠ nowR → 0 < Sr.gap nowR (rcomN es nowR is v)) := by
  unfold comN rcomN rcomI
  rw [h.comC v]
  by_cases hc : rcomC es nowR is v = 0
  · rw [if_pos hc, if_pos hc, if_pos hc]
    have hsh : shV (v + 1) = v := by unfold shV; rw [if_pos (by omega)]; exact curV_succ hv
    have hhas : (hasV vs v).isSome = true := by
      refine (h.find v).1 ?_
      unfold rcomC at hc
      split at hc
      · cases hc
      · omega
    refine ⟨⟨h.perm, h.sorted, h.keys, by omega, by omega, hsh.symm, ?_, h.len, fun _ => by rw [curV_succ hv]; exact hhas⟩, fun hi hne => ?_⟩
    · unfold isV; rw [decide_eq_true (by omega)]
    · unfold rcomC at hc
      split at hc
      · cases hc
      · split at hc
        · cases hc
        · rename_i hx
          rw [hi, decide_eq_true hne] at hx
          simp at hx
          omega
  · rw [if_neg hc, if_neg hc, if_neg hc]
    exact ⟨h, fun _ hne => absurd rfl hne⟩
theorem RelT.keep (h : RelT vs es now nowR is) (v x : Int) : keepV nowR is v x = !retB v (curV now) (isV now) x := by
  unfold keepV retB
  rw [h.hnow, h.his]
  unfold shV isV
  by_cases hn : 0 < now
  · rw [decide_eq_true hn, if_pos hn]
    by_cases hg : 0 < Sr.gap x v
    · rw [decide_eq_true hg, decide_eq_false (by omega)]; simp
    · rw [decide_eq_false hg, decide_eq_true (by omega)]; simp
  · rw [decide_eq_false hn]
    by_cases hg : 0 < Sr.gap x v
    · rw [decide_eq_true hg, decide_eq_false (by omega)]; simp
    · rw [decide_eq_false hg, decide_eq_true (by omega)]; simp
theorem RelT.retire (h : RelT vs es now nowR is) (v : Int) {vs' : List (Int × List TRow)} (hp : vs'.Perm (vs.filter fun p => !retB v (curV now) (isV now) p.1)) : RelT vs' (es.filter fun e => keepV nowR is v e.n) now nowR is := by
  have e1 : esV (es.filter fun e => keepV nowR is v e.n) = (esV es).filter fun p => !retB v (curV now) (isV now) p.1 := by
    unfold esV
    rw [List.filter_map]
    congr 1
    exact List.filter_congr fun e _ => h.keep v e.n
  have hP : (esV (es.filter fun e => keepV nowR is v e.n)).Perm vs' := by rw [e1]; exact (h.perm.filter _).trans hp.symm
  refine ⟨hP, h.sorted.sublist List.filter_sublist, fun e he => h.keys e (List.mem_filter.1 he).1, h.n0, h.n1, h.hnow, h.his, Nat.le_trans (List.length_filter_le _ _) h.len, fun hn => ?_⟩
  have hc := h.cur hn
  cases hh : hasV vs (curV now) with
  | none => rw [hh] at hc; cases hc
  | some rs =>
    have hm := hasV_mem hh
    have hn' : (vs'.map (·.1)).Nodup := by
      refine (hp.map (·.1)).nodup_iff.2 (List.Nodup.sublist (List.Sublist.map _ List.filter_sublist) ?_)
      exact (h.perm.map (·.1)).nodup_iff.1 h.nodupE
    have hin : (curV now, rs) ∈ vs' := hp.mem_iff.2 (List.mem_filter.2 ⟨hm, by
      unfold retB isV
      rw [decide_eq_true hn]
      simp⟩)
    rw [hasV_of_mem hn' hin]
    rfl
theorem RelT.clear : RelT [] [] 0 0 false := ⟨.nil, .nil, fun e he => (by cases he), by decide, by decide, rfl, rfl, by decide, fun h => absurd h (by decide)⟩
theorem RelT.shown (h : RelT vs es now nowR is) {l : List Int} (hp : l.Perm (vs.map (·.1))) (ho : ordU l) : l = es.map (·.n) := by
  have h2 : l.Perm (es.map (·.n)) := by rw [← esV_keys]; exact hp.trans (h.perm.map (·.1)).symm
  have h3 : (es.map (·.n)).Pairwise (· ≤ ·) := List.pairwise_map.2 (h.sorted.imp fun {a b} hab => Int.le_of_lt hab)
  exact List.Perm.eq_of_pairwise (le := fun a b => a ≤ b) (fun a b _ _ h1 h2 => Int.le_antisymm h1 h2) ho h3 h2
theorem RelT.at (h : RelT vs es now nowR is) {e : VE} (he : e ∈ es) : hasV vs e.n = some e.rs := by
  rw [h.has]
  exact hasV_of_mem h.nodupE (List.mem_map_of_mem (f := fun e : VE => (e.n, e.rs)) he)
end
end Go.Proofs.YtegjamjognpdkaaGreat
namespace Go.Proofs.YtegjamjognpdkaaGreat
open Go.RowKit
set_option linter.unusedVariables false
set_option linter.unusedSimpArgs false
/-- a call: its kind, its version, its rows and the slice that holds them -/
structure AE where
  k : Int
  v : Int
  rs : List TRow
  lv : Value
def AE.c (a : AE) : List Value := [.int .i64 a.k, .int .u32 a.v, a.lv]
def cellsA : List AE → List Value
  | [] => []
  | a :: al => .int .i64 a.k :: .int .u32 a.v :: a.lv :: cellsA al
theorem cellsA_get : ∀ (al : List AE) (j : Nat) (a : AE), al[j]? = some a → ∀ i u, a.c[i]? = some u → (cellsA al)[j * 3 + i]? = some u
  | [], _, _, h, _, _, _ => by simp at h
  | x :: al, 0, a, h, i, u, hu => by
    simp at h
    subst h
    rw [Nat.zero_mul, Nat.zero_add]
    match i, hu with
    | 0, hu => exact hu
    | 1, hu => exact hu
    | 2, hu => exact hu
    | i + 3, hu => simp [AE.c] at hu
  | x :: al, j + 1, a, h, i, u, hu => by
    have := cellsA_get al j a (by simpa using h) i u hu
    rw [show (j + 1) * 3 + i = (j * 3 + i) + 1 + 1 + 1 by omega]
    exact this
structure ActsAt (w : World) (v : Value) (al : List AE) : Prop where
  row : Reads w v al.length (cellsA al)
  each : ∀ a ∈ al, (0 ≤ a.v ∧ a.v < 4294967296) ∧ ∃ sv, RowsAt w a.lv a.rs sv
theorem ActsAt.keep {w w' : World} {v : Value} {al : List AE} (h : ActsAt w v al) (hm : Mod (fun _ => False) w w') : ActsAt w' v al :=
  ⟨h.row.keep0 hm, fun a ha => ⟨(h.each a ha).1, (h.each a ha).2.imp fun sv hs => hs.keep hm⟩⟩
/-- tables and document, side by side in memory -/
structure PSt (w wr : World) (pq : Nat) (qc : List Value) (tb xb : Nat) (vs : List (Int × List TRow)) (es : List VE) (now nowR : Int) (is : Bool) (fT fR : Nat → Prop) (lv : Value) : Prop where
  tab : TabAt wr fT tb now vs
  ref : RT wr fR xb es nowR is lv
  dt : ∀ k, fT k → (¬ fR k ∧ k ≠ xb) ∧ k ≠ pq ∧ w.heap.size ≤ k ∧ k < wr.heap.size
  dr : ∀ k, fR k → k ≠ pq ∧ w.heap.size ≤ k ∧ k < wr.heap.size
  dx : xb ≠ pq ∧ w.heap.size ≤ xb
  q : Blk wr pq 28 qc
  mod : Mod (fun _ => False) w wr
  rel : RelT vs es now nowR is
section
variable {w wr w1 w2 w3 w4 : World} {pq tb xb : Nat} {qc : List Value} {vs : List (Int × List TRow)} {es : List VE} {now nowR : Int} {is : Bool} {fT fR : Nat → Prop} {lv : Value}
theorem PSt.keep (h : PSt w wr pq qc tb xb vs es now nowR is fT fR lv) (hm : Mod (fun _ => False) wr w1) : PSt w w1 pq qc tb xb vs es now nowR is fT fR lv :=
  ⟨h.tab.keep hm fun _ _ f => f, h.ref.keep hm (fun _ _ f => f) fun f => f, fun k hk => ⟨(h.dt k hk).1, (h.dt k hk).2.1, (h.dt k hk).2.2.1, Nat.lt_of_lt_of_le (h.dt k hk).2.2.2 hm.size⟩, fun k hk => ⟨(h.dr k hk).1, (h.dr k hk).2.1, Nat.lt_of_lt_of_le (h.dr k hk).2.2 hm.size⟩, h.dx, h.q.keep hm fun f => f, h.mod.trans hm fun _ f => f.elim, h.rel⟩
/-- the tables have changed in themselves -/
theorem PSt.tabs {vs' : List (Int × List TRow)} {es' : List VE} {now' nowR' : Int} {is' : Bool} (h : PSt w wr pq qc tb xb vs es now nowR is fT fR lv) {fT' : Nat → Prop} (ht : TabAt w1 fT' tb now' vs') (hf : ∀ k, fT' k → k < w1.heap.size → fT k ∨ wr.heap.size ≤ k) (hm : Mod fT wr w1)
    (hr : RelT vs' es' now' nowR' is') : (TabAt w1 (fun k => (fT k ∨ wr.heap.size ≤ k) ∧ k < w1.heap.size) tb now' vs') ∧ RT w1 fR xb es nowR is lv ∧ Blk w1 pq 28 qc ∧ Mod (fun _ => False) w w1 ∧ (∀ k, ((fT k ∨ wr.heap.size ≤ k) ∧ k < w1.heap.size) → (¬ fR k ∧ k ≠ xb) ∧ k ≠ pq ∧ w.heap.size ≤ k ∧ k < w1.heap.size) := by
  have hq := h.q.lt
  have hx := h.ref.tab.lt
  refine ⟨ht.mono fun k hk hl => ⟨hf k hk hl, hl⟩, h.ref.keep hm (fun k hk e => (h.dt k e).1.1 hk) fun e => (h.dt _ e).1.2 rfl, h.q.keep hm fun e => (h.dt _ e).2.1 rfl, h.mod.trans hm fun k hk => .inr (h.dt k hk).2.2.1, fun k hk => ?_⟩
  refine ⟨⟨fun hr => ?_, fun e => ?_⟩, fun e => ?_, ?_, hk.2⟩
  · rcases hk.1 with x | x
    · exact (h.dt k x).1.1 hr
    · have := (h.dr k hr).2.2; omega
  · rcases hk.1 with x | x
    · exact (h.dt k x).1.2 e
    · omega
  · rcases hk.1 with x | x
    · exact (h.dt k x).2.1 e
    · omega
  · rcases hk.1 with x | x
    · exact (h.dt k x).2.2.1
    · have := h.mod.size; omega
/-- .. and the document's, behind them -/
theorem PSt.both {vs' : List (Int × List TRow)} {es' : List VE} {now' nowR' : Int} {is' : Bool} {lv' : Value} (h : PSt w wr pq qc tb xb vs es now nowR is fT fR lv) {fT' fl fR' : Nat → Prop} (ht : TabAt w1 fT' tb now' vs') (hf : ∀ k, fT' k → k < w1.heap.size → fT k ∨ wr.heap.size ≤ k) (hm : Mod fT wr w1)
    (hm2 : Mod (fun _ => False) w1 w2) (hr : RT w3 fR' xb es' nowR' is' lv') (hfr : ∀ k, fR' k → k < w3.heap.size → fR k ∨ w1.heap.size ≤ k) (hm3 : Mod (fun q => q = xb) w2 w3) (hrel : RelT vs' es' now' nowR' is') :
    PSt w w3 pq qc tb xb vs' es' now' nowR' is' (fun k => (fT k ∨ wr.heap.size ≤ k) ∧ k < w1.heap.size) (fun k => (fR k ∨ w1.heap.size ≤ k) ∧ k < w3.heap.size ∧ k ≠ xb) lv' := by
  obtain ⟨h1, h2, h3, h4, h5⟩ := h.tabs ht hf hm hrel
  have hq := h.q.lt
  have hx := h.ref.tab.lt
  have s1 := hm.size
  have s2 := hm2.size
  have s3 := hm3.size
  have s0 := h.mod.size
  refine ⟨(h1.keep hm2 fun _ _ f => f).keep hm3 fun k hk e => (h5 k hk).1.2 e, hr.mono (fun k hk hl => ⟨hfr k hk hl, hl, fun e => hr.far (by rw [← e]; exact hk)⟩) fun hx' => hx'.2.2 rfl, fun k hk => ?_, fun k hk => ?_, h.dx, (h3.keep hm2 fun f => f).keep hm3 fun e => h.dx.1 (show pq = xb from e).symm, (h4.trans hm2 fun _ f => f.elim).trans hm3 fun k hk => .inr (by rw [show k = xb from hk]; exact h.dx.2), hrel⟩
  · obtain ⟨⟨a, b⟩, c, d, e⟩ := h5 k hk
    refine ⟨⟨fun hr' => ?_, b⟩, c, d, by omega⟩
    rcases hr'.1 with x | x
    · exact a x
    · omega
  · refine ⟨fun e => ?_, ?_, hk.2.1⟩
    · rcases hk.1 with x | x
      · exact (h.dr k x).1 e
      · omega
    · rcases hk.1 with x | x
      · exact (h.dr k x).2.1
      · omega
/-- .. or a new document -/
theorem PSt.fresh {xb2 : Nat} (h : PSt w wr pq qc tb xb vs es now nowR is fT fR lv) (ht : TabAt w1 fT tb 0 []) (hm : Mod fT wr w1) (hm2 : Mod (fun _ => False) w1 w2) (hb : Blk w2 xb2 35 [.slice none 0 0, .int .u32 0, .bool false]) (hx : w1.heap.size ≤ xb2) :
    PSt w w2 pq qc tb xb2 [] [] 0 0 false (fun k => (fT k ∨ wr.heap.size ≤ k) ∧ k < w1.heap.size) (fun _ => False) (.slice none 0 0) := by
  obtain ⟨h1, h2, h3, h4, h5⟩ := h.tabs (es' := []) (nowR' := 0) (is' := false) ht (fun k hk _ => .inl hk) hm RelT.clear
  have hq := h.q.lt
  have s1 := hm.size
  have s2 := hm2.size
  have s0 := h.mod.size
  refine ⟨h1.keep hm2 fun _ _ f => f, ⟨hb, Row.nil _ _ _ _, fun e he => (by cases he), fun f => f⟩, fun k hk => ?_, fun k hk => hk.elim, ⟨by omega, by omega⟩, h3.keep hm2 fun f => f, h4.trans hm2 fun _ f => f.elim, RelT.clear⟩
  obtain ⟨⟨a, b⟩, c, d, e⟩ := h5 k hk
  exact ⟨⟨fun f => f, by omega⟩, c, d, by omega⟩
/-- behind found -/
theorem PSt.asked (h : PSt w wr pq qc tb xb vs es now nowR is fT fR lv) (ht : TabAt w1 (fun k => fT k ∨ wr.heap.size ≤ k) tb now vs) (hr : RT w1 fR xb es nowR is lv) (hm : Mod fT wr w1) :
    PSt w w1 pq qc tb xb vs es now nowR is (fun k => (fT k ∨ wr.heap.size ≤ k) ∧ k < w1.heap.size) fR lv := by
  obtain ⟨h1, h2, h3, h4, h5⟩ := h.tabs ht (fun k hk _ => hk) hm h.rel
  exact ⟨h1, hr, h5, fun k hk => ⟨(h.dr k hk).1, (h.dr k hk).2.1, Nat.lt_of_lt_of_le (h.dr k hk).2.2 hm.size⟩, h.dx, h3, h4, h.rel⟩
end
end Go.Proofs.YtegjamjognpdkaaGreat
