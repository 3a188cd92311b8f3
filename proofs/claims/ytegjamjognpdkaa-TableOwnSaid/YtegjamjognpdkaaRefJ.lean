/- The reference of rows: Read: what a round needs. -/
import Derived.Test.YtegjamjognpdkaaRefI
import Derived.Test.YtegjamjognpdkaaRdG
import Derived.Test.YtegjamjognpdkaaRegT
namespace Go.Proofs.Ytegjamjognpdkaa
open Go.RowKit
set_option linter.unusedVariables false
set_option linter.unusedSimpArgs false
/-- a tail of a text -/
structure TailAt (s : ByteArray) (p : Nat) (u : ByteArray) : Prop where
  eq : u = s.extract p s.size
  le : p ≤ s.size
theorem TailAt.size {s u : ByteArray} {p : Nat} (h : TailAt s p u) : u.size = s.size - p := by rw [h.eq, ByteArray.size_extract]; have := h.le; omega
theorem TailAt.byt {s u : ByteArray} {p : Nat} (h : TailAt s p u) (i : Nat) (hi : p + i < s.size) : byt u i = byt s (p + i) := by rw [h.eq, byt_extract s p s.size i hi (Nat.le_refl _)]
theorem TailAt.get {s u : ByteArray} {p : Nat} (h : TailAt s p u) (i : Nat) (hi : i < u.size) : ((u[i].toNat : Nat) : Int) = Go.Proofs.Ytegjamjognpdkaa.byt s (p + i) := by
  have := h.size
  rw [← byt_get u i hi, h.byt i (by omega)]
theorem TailAt.tail {s u : ByteArray} {p k : Nat} (h : TailAt s p u) (hk : p + k ≤ s.size) : TailAt s (p + k) (u.extract k u.size) := by
  have hs := h.size
  refine ⟨?_, hk⟩
  rw [hs, h.eq]
  apply ByteArray.ext
  rw [ByteArray.data_extract, ByteArray.data_extract, ByteArray.data_extract, Array.extract_extract]
  congr 1
  omega
theorem TailAt.num {s u : ByteArray} {p : Nat} (h : TailAt s p u) (i : Nat) (hi : p + i + 2 ≤ s.size) : (u.extract i (i + 2)).size ≤ 2 ∧ numB (u.extract i (i + 2)) 0 (u.extract i (i + 2)).size = num2 s (p + i) := by
  have hs := h.size
  have h2 : (u.extract i (i + 2)).size = 2 := ext_size u i 2 (by omega)
  rw [h2]
  refine ⟨Nat.le_refl _, ?_⟩
  show num2 _ 0 = _
  unfold num2
  rw [byt_extract u i _ 0 (by omega) (by omega), byt_extract u i _ 1 (by omega) (by omega), h.byt (i + 0) (by omega), h.byt (i + 1) (by omega)]
  rfl
theorem TailAt.adr {s u : ByteArray} {p n : Nat} (h : TailAt s p u) (hi : p + 5 + n ≤ s.size) : (u.extract 5 (5 + n)).size = n ∧ adrAt (u.extract 5 (5 + n)) 0 n = adrAt s (p + 5) n := by
  have hs := h.size
  refine ⟨ext_size u 5 n (by omega), ?_⟩
  rw [adrAt_extract u 5 n (by omega)]
  unfold adrAt
  apply List.map_congr_left
  intro k hk
  split
  · rw [h.byt (5 + k) (by omega), ← Nat.add_assoc]
  · rfl
theorem wp_store_blkW {P : Program} {o : Oper} {a : Act} {w : World} {K : Act → World → Prop} {Q : Exit → Act → World → Prop} (ty : TypeId) (x y : Operand) (ho : o.op = .store ty x y) (g off : Nat) (t : TypeId) (cur cs : List Value) (hx : a.eval x = .pointer (some ⟨g, off, none⟩)) (hy : a.eval y = .agg cs.toArray)
    (hg : Blk w g t cur) (hfit : off + cs.length ≤ cur.length) (hi : (P.info? ty).map (·.size) = some cs.length) (h1 : ∀ v ∈ cs, v.oneCell' = true)
    (h : ∀ w', Hid (Blk w' g t (splice cur off cs)) → Hid (Mod (fun k => k = g) w w') → K (a.put o.dst undef) w') : o.wp P a w K Q := by
  have hrun := run_storeAt_blk (P := P) ty g off t cur cs hg hfit hi h1
  unfold Oper.wp execOp
  simp only [ho, hx, hy, Sem.run_bind, Sem.run_pure, hrun, Result.andThen_ok]
  exact h _ (show Hid _ from Lib.hid (blk_setRow hg _)) (show Hid _ from Lib.hid ((Mod.refl (fun k => k = g) w).setRow (g := g) (.inl rfl) _))
/-- the loop of the reference's Read, j rounds behind -/
structure RefJ (s : ByteArray) (w wr : World) (u : ByteArray) (v : Value) (is : Bool) (j : Nat) : Prop where
  tl : TailAt s (st s j).p u
  ok : is = (st s j).ok
  mod : Mod (fun _ => False) w wr
  more : ∀ m, m < j → More s (st s m)
  row : ∃ sv, RowsOwn wr (fun k => w.heap.size ≤ k) v (st s j).rs sv
theorem RefJ.calm {s u : ByteArray} {w wr w2 : World} {v : Value} {is : Bool} {j : Nat} (h : RefJ s w wr u v is j) (hm : Mod (fun _ => False) wr w2) : RefJ s w w2 u v is j :=
  ⟨h.tl, h.ok, h.mod.trans hm fun _ f => f.elim, h.more, h.row.elim fun sv hr => ⟨sv, hr.keep hm fun _ _ f => f⟩⟩
/-- .. while blocks change that are none of its own -/
theorem RefJ.far {F : Nat → Prop} {s u : ByteArray} {w wr w2 : World} {v : Value} {is : Bool} {j : Nat} (h : RefJ s w wr u v is j) (b1 : Nat) (hb : ∃ sv, RowsOwn wr (fun k => w.heap.size ≤ k ∧ k < b1) v (st s j).rs sv) (hm : Mod F wr w2) (hF : ∀ k, F k → b1 ≤ k ∧ w.heap.size ≤ k) : RefJ s w w2 u v is j ∧ ∃ sv, RowsOwn w2 (fun k => w.heap.size ≤ k ∧ k < b1) v (st s j).rs sv := by
  obtain ⟨sv, hr⟩ := hb
  have h2 := hr.keep hm fun k hk e => by have := hF k e; omega
  exact ⟨⟨h.tl, h.ok, h.mod.trans hm fun x hx => .inr (hF x hx).2, h.more, sv, ⟨h2.row.mono fun k hk => hk.1, h2.ok, fun i r hi => (h2.next i r hi).mono fun k hk => hk.1⟩⟩, sv, h2⟩
theorem RowsOwn.below {w : World} {f : Nat → Prop} {v : Value} {rs : List TRow} {sv : Nat → Value} (h : RowsOwn w f v rs sv) : RowsOwn w (fun k => f k ∧ k < w.heap.size) v rs sv :=
  ⟨⟨h.row.1, fun g hg => ⟨h.row.2 g hg, h.row.lt g hg⟩⟩, h.ok, fun i r hi => ⟨(h.next i r hi).1, fun g hg => ⟨(h.next i r hi).2 g hg, (h.next i r hi).lt g hg⟩⟩⟩
/-- the inner loop: k next ones are read -/
structure RefK (s : ByteArray) (w wr : World) (p7 : Nat) (C : Value → List Value) (q0 : Nat) (u : ByteArray) (v : Value) (is : Bool) (j k : Nat) (v' : Value) : Prop where
  own : Blk wr p7 38 (C v')
  row : Row wr (fun q => p7 < q) 3 1 v' k (ints (nextAt s q0 k))
  rj : RefJ s w wr u v is j
  rb : ∃ sv, RowsOwn wr (fun q => w.heap.size ≤ q ∧ q < p7) v (st s j).rs sv
theorem RefK.next {s u : ByteArray} {w wr w10 w11 : World} {p7 q0 j k : Nat} {a1 a2 a9 : Int} {bv is : Bool} {X : List Int} {v v' v10 : Value} (h : RefK s w wr p7 (rowC a1 bv X a2) q0 u v is j k v') (hxl : X.length = 16) (hp7 : w.heap.size ≤ p7) (ha : a9 = num2 s (q0 + 2 * k))
    (hR10 : Row w10 (fun q => p7 < q ∨ (wr.drew.alloc (.cells #[.int .i64 a9] 3 (0, 0))).heap.size ≤ q) 3 1 v10 (k + 1) (ints (nextAt s q0 k) ++ #[Value.int .i64 a9].toList)) (hm10 : Mod (fun q => v'.ownBlock = some q) (wr.drew.alloc (.cells #[.int .i64 a9] 3 (0, 0))) w10)
    (hl : Blk w11 p7 38 ((rowC a1 bv X a2 v').set 19 v10)) (hm11 : Mod (fun q => q = p7) w10 w11) : RefK s w w11 p7 (rowC a1 bv X a2) q0 u v is j (k + 1) v10 := by
  have own : ∀ q, v'.ownBlock = some q → p7 < q := fun q hq => h.row.2 q hq
  have hlt : p7 < (wr.drew.alloc (.cells #[.int .i64 a9] 3 (0, 0))).heap.size := Nat.lt_of_lt_of_le h.own.lt (by simp)
  have b10 : Blk w10 p7 38 (rowC a1 bv X a2 v') := (h.own.drew.alloc (.cells #[.int .i64 a9] 3 (0, 0))).keep hm10 fun e => h.row.ne h.own (by decide) e
  have hrow : Row w10 (fun q => p7 < q) 3 1 v10 (k + 1) (ints (nextAt s q0 (k + 1))) := by
    have : ints (nextAt s q0 (k + 1)) = ints (nextAt s q0 k) ++ #[Value.int .i64 a9].toList := by rw [nextAt_snoc, ha]; simp [ints]
    rw [this]
    exact hR10.mono fun y hy => hy.elim id fun h => by omega
  have hm : Mod (fun q => p7 ≤ q) wr w11 := (((Mod.refl _ _).drew.alloc _).trans hm10 fun x hx => .inl (by have := own x hx; omega)).trans hm11 fun x hx => .inl (by omega)
  obtain ⟨g1, g2⟩ := h.rj.far p7 h.rb hm fun k hk => ⟨hk, by omega⟩
  refine ⟨?_, hrow.far hm11 fun q hq e => hrow.ne b10 (by decide) (e ▸ hq), g1, g2⟩
  rw [rowC_set _ _ _ _ _ _ hxl] at hl
  exact hl
theorem refJ_next {s u : ByteArray} {w wr w10 : World} {p p7 j k n Q : Nat} {a1 a2 : Int} {bv is : Bool} {X : List Int} {v v' v10 : Value} {ob : Obj} (h : RefK s w wr p7 (rowC a1 bv X a2) (p + 6 + n) u v is j k v') (hp : p = (st s j).p) (hp7 : w.heap.size ≤ p7) (hn : wideAt s p = n) (hk : k = cntAt s p) (h1 : a1 = num2 s (p + 1)) (h2 : a2 = num2 s (p + 3)) (hb : bv = decide (byt s p = 1)) (hX : X = adrAt s (p + 5) n)
    (hQ : Q = 6 + n + 2 * k) (hfull : p + Q ≤ s.size) (hlt : p < s.size) (hob : ob = .cells (rowC a1 bv X a2 v').toArray 38 (0, 0)) {sv : Nat → Value} (hrb : RowsOwn wr (fun q => w.heap.size ≤ q ∧ q < p7) v (st s j).rs sv)
    (hR10 : Row w10 (fun q => (w.heap.size ≤ q ∧ q < p7) ∨ (wr.drew.alloc ob).heap.size ≤ q) 38 20 v10 ((st s j).rs.length + 1) (cellsR sv 0 (st s j).rs ++ (rowC a1 bv X a2 v').toArray.toList)) (hm10 : Mod (fun q => v.ownBlock = some q) (wr.drew.alloc ob) w10) :
    RefJ s w w10 (u.extract Q u.size) v10 (is && decide (byt s p ≤ 1)) (j + 1) := by
  have hmo : More s (st s j) := by
    refine ⟨hp ▸ hlt, ?_⟩
    unfold fullAt nxtAt
    rw [← hp, hn, ← hk]
    omega
  obtain ⟨e1, e2, e3⟩ := stp_more hmo
  have hnx : nxtAt s p = p + Q := by unfold nxtAt; rw [hn, ← hk]; omega
  have htl := h.rj.tl
  rw [← hp] at htl
  have hsz : w.heap.size ≤ (wr.drew.alloc ob).heap.size := Nat.le_trans h.rj.mod.size (by simp)
  have hm0 : Mod (fun _ => False) wr (wr.drew.alloc ob) := (Mod.refl _ _).drew.alloc _
  refine ⟨?_, ?_, (h.rj.mod.trans hm0 fun _ f => f.elim).trans hm10 fun x hx => .inr (hrb.row.2 x hx).1, fun m hm => ?_, ?_⟩
  · rw [e1, ← hp, hnx]
    exact htl.tail hfull
  · rw [e3, h.rj.ok, ← hp]
  · rcases (show m < j ∨ m = j by omega) with hm | rfl
    · exact h.rj.more m hm
    · exact hmo
  · have g3 : RowsOwn (wr.drew.alloc ob) (fun q => w.heap.size ≤ q) v (st s j).rs sv := by
      have g := hrb.keep hm0 fun _ _ f => f
      exact ⟨g.row.mono fun k hk => hk.1, g.ok, fun i r hi => (g.next i r hi).mono fun k hk => hk.1⟩
    have r5 : Row (wr.drew.alloc ob) (fun q => w.heap.size ≤ q) 3 1 v' (rowOf s p).next.length (ints (rowOf s p).next) := by
      rw [rowOf_next, ← hk]
      have e : (rowOf s p).next = nextAt s (p + 6 + n) k := by unfold rowOf; rw [hn, hk]
      rw [e]
      exact (h.row.keep hm0 fun _ _ f => f).mono fun k hk => by omega
    have ec : (rowOf s p).c v' = rowC a1 bv X a2 v' := by
      unfold TRow.c rowOf
      dsimp only
      rw [h1, h2, hb, hX, hn]
    rw [e2, ← hp]
    refine ⟨_, g3.snoc r5 (rowOf_b s p) ?_ hm10 fun _ h => h⟩
    rw [ec]
    exact hR10.mono fun y hy => hy.elim (fun h => h.1) fun h => by omega
theorem exec_slice_text {P : Program} {ev : Operand → Value} {op : Oper} {t : TypeId} {x lo hi : Operand} (ho : op.op = .slice t x (some lo) (some hi) none) (ht : P.underlying t = some .string) {u : ByteArray} {l h : Int} (ex : ev x = .string u) (el : ev lo = .int .i64 l) (eh : ev hi = .int .i64 h) (q q2 : Nat) (hl : l = (q : Int)) (hh : h = (q2 : Int)) (h1 : q ≤ q2) (h2 : q2 ≤ u.size) (w : World) :
    (execOp ev op).run P w = .ok (.value (.string (u.extract q q2))) w := by
  subst hl hh
  simp [execOp, ho, ex, el, eh, Instr.sliceAt, Instr.slice, Instr.sliceBounds, Instr.sliceBound, asIntOf, run_underlying ht, Result.andThen, h1, h2]
theorem exec_slice_tail {P : Program} {ev : Operand → Value} {op : Oper} {t : TypeId} {x lo : Operand} (ho : op.op = .slice t x (some lo) none none) (ht : P.underlying t = some .string) {u : ByteArray} {l : Int} (ex : ev x = .string u) (el : ev lo = .int .i64 l) (q : Nat) (hl : l = (q : Int)) (h2 : q ≤ u.size) (w : World) :
    (execOp ev op).run P w = .ok (.value (.string (u.extract q u.size))) w := by
  subst hl
  simp [execOp, ho, ex, el, Instr.sliceAt, Instr.slice, Instr.sliceBounds, Instr.sliceBound, asIntOf, run_underlying ht, Result.andThen, h2]
theorem wp_build1 {P : Program} {o : Oper} {a : Act} {w : World} {K : Act → World → Prop} {Q : Exit → Act → World → Prop} {t e : TypeId} {z : Value} {size bytes : Nat} (E : Elem P t e z size bytes) (x : Operand) (ho : o.op = .buildSlice t 1 #[(0, x)]) (cs : List Value) (hx : a.eval x = .agg cs.toArray)
    (hl : cs.length = size) (h0 : 0 < size) (hs : size ≤ 1000) (h : K (a.put o.dst (.slice (some ⟨w.heap.size, 0, none⟩) 1 1)) (w.alloc (.cells cs.toArray e (0, 0)))) : o.wp P a w K Q := by
  have hr := run_buildSlice1 E cs hl h0 hs w
  unfold Oper.wp
  simp [execOp, ho, hx, hr, Result.andThen]
  exact h
theorem TailAt.nil {s u : ByteArray} {p : Nat} (h : TailAt s p u) (hp : ¬ p < s.size) : u = ⟨#[]⟩ := by
  have := h.size
  have h0 : u.size = 0 := by omega
  cases u with
  | mk d => congr 1; exact Array.eq_empty_of_size_eq_zero h0
set_option maxRecDepth 100000 in
set_option maxHeartbeats 4000000 in
theorem refRead_any (s : ByteArray) (hs : s.size ≤ 1000) (w : World) :
    Calls Try.prog 15 #[.string s] w fun e w' => ∃ (j : Nat) (v : Value) (c : Int), e = .returned (.tuple #[v, .int .i64 c]) ∧ ¬ More s (st s j) ∧ ReadR s (st s j) w' v c ∧ Mod (fun _ => False) w w' := by
  have HRS := Lib.hid rowSz
  have HAS := Lib.hid adrSz
  have HLS := Lib.hid sliceSz
  have HJ0 : Hid (RefJ s w (w.alloc (.cells #[] 38 (0, 0))) s (.slice (some ⟨w.heap.size, 0, none⟩) 0 0) true 0) := Lib.hid ⟨⟨by apply ByteArray.ext; show s.data = (s.extract 0 s.size).data; rw [ByteArray.data_extract]; exact (Array.extract_size ..).symm, Nat.zero_le _⟩, rfl, (Mod.refl _ _).alloc _, fun m hm => by omega, fun _ => .slice none 0 0, Row.made (cur := #[]) (allocNew w _) rfl (by unfold maxLen; omega) (Nat.le_refl _), fun r hr => (by cases hr), fun i r h => (by simp [st] at h)⟩
  go_enter Try.func15, Try.ntmps15
  go_wp2_with fail
  go_loopw [0, 4, 5] (fun t v b wr => ∃ (u : ByteArray) (is : Bool) (j : Nat), t = .string u ∧ b = .bool is ∧ RefJ s w wr u v is j) (fun t _ _ _ => match t with | .string u => u.size | _ => 0)
  case atStart => exact ⟨s, true, 0, rfl, rfl, HJ0.out⟩
  case round =>
    obtain ⟨u, is, j, rfl, rfl, hJ⟩ := hrel
    obtain ⟨p, hp⟩ : ∃ p, p = (st s j).p := ⟨_, rfl⟩
    have htl := hJ.tl
    rw [← hp] at htl
    have hus := htl.size
    have hle := htl.le
    have HTL := Lib.hid htl
    have HJ := Lib.hid hJ
    have HP := Lib.hid hp
    clear htl hJ hp HJ0
    have HUS := Lib.hid hus
    clear hus
    by_cases hlt : p < s.size
    · have hu0 : 0 < u.size := by have := HUS.out; omega
      have hne : u.toList.isEmpty = false := by
        rw [ByteArray.toList_eq]
        cases hl : u.data.toList with
        | nil => have : u.data.toList.length = 0 := by rw [hl]; rfl
                 have h2 : u.size = u.data.toList.length := by simp
                 omega
        | cons _ _ => rfl
      have e0 : ((u[0].toNat : Nat) : Int) = byt s p := HTL.out.get 0 hu0
      by_cases hb : byt s p = 1
      · have hwd : wideAt s p = 16 := by unfold wideAt; simp [hb]
        have hbd : (byt s p == 1) = true := by simp [hb]
        have HWD := Lib.hid hwd
        clear hwd
        by_cases h1 : u.size < 22
        · have hc1 : decide ((u.size : Int) < 22) = true := decide_eq_true (by omega)
          have HNM : Hid (¬ More s (st s j)) := Lib.hid fun h => by
            have h2 := h.2
            rw [← HP.out] at h2
            unfold fullAt nxtAt at h2
            rw [HWD.out] at h2
            have := HUS.out
            omega
          go_wp2
          go_ret2
          exact ⟨j, _, _, rfl, HNM.out, .short (by rw [← HP.out]; exact hlt), HJ.out.mod⟩
        · have hc1 : decide ((u.size : Int) < 22) = false := decide_eq_false (by omega)
          have h5 : 21 < u.size := by omega
          obtain ⟨N, hN⟩ : ∃ N, N = cntAt s p := ⟨_, rfl⟩
          have hNb : N < 256 := by rw [hN]; unfold cntAt; have := byt_bd s (p + 5 + wideAt s p); omega
          have eC : ((u[21].toNat : Nat) : Int) = (N : Int) := by
            rw [HTL.out.get 21 h5, hN]
            unfold cntAt
            rw [HWD.out, show p + 5 + 16 = p + 21 by omega]
            have := byt_bd s (p + 21)
            omega
          have w1 : IntKind.i64.wrap (N : Int) = (N : Int) := IntWalk.i64_in _ (by omega)
          have w2 : IntKind.i64.wrap (2 * (N : Int)) = 2 * (N : Int) := IntWalk.i64_in _ (by omega)
          have w3 : IntKind.i64.wrap (22 + 2 * (N : Int)) = 22 + 2 * (N : Int) := IntWalk.i64_in _ (by omega)
          have HN := Lib.hid hN
          clear hN
          by_cases h2 : u.size < 22 + 2 * N
          · have hc2 : decide ((u.size : Int) < 22 + 2 * (N : Int)) = true := decide_eq_true (by omega)
            have HNM : Hid (¬ More s (st s j)) := Lib.hid fun h => by
              have h3 := h.2
              rw [← HP.out] at h3
              unfold fullAt nxtAt at h3
              rw [HWD.out, ← HN.out] at h3
              have := HUS.out
              omega
            go_wp2
            go_ret2
            exact ⟨j, _, _, rfl, HNM.out, .short (by rw [← HP.out]; exact hlt), HJ.out.mod⟩
          · have hc2 : decide ((u.size : Int) < 22 + 2 * (N : Int)) = false := decide_eq_false (by omega)
            have hful : p + 22 + 2 * N ≤ s.size := by have := HUS.out; omega
            go_wp2_with fail
            obtain ⟨a1, ha1⟩ : ∃ a1, a1 = num2 s (p + 1) := ⟨_, rfl⟩
            obtain ⟨a2, ha2⟩ : ∃ a2, a2 = num2 s (p + 3) := ⟨_, rfl⟩
            have HA1 : Hid ((u.extract 1 3).size ≤ 2 ∧ numB (u.extract 1 3) 0 (u.extract 1 3).size = a1) := Lib.hid (by rw [ha1]; exact HTL.out.num 1 (by omega))
            have HA2 : Hid ((u.extract 3 5).size ≤ 2 ∧ numB (u.extract 3 5) 0 (u.extract 3 5).size = a2) := Lib.hid (by rw [ha2]; exact HTL.out.num 3 (by omega))
            have bd1 : 0 ≤ a1 ∧ a1 < 65536 := by rw [ha1]; exact num2_bd _ _
            have bd2 : 0 ≤ a2 ∧ a2 < 65536 := by rw [ha2]; exact num2_bd _ _
            have v1 : IntKind.i64.wrap a1 = a1 := IntWalk.i64_in _ (by omega)
            have v2 : IntKind.i64.wrap a2 = a2 := IntWalk.i64_in _ (by omega)
            have b3 : (3 : Int) ≤ (u.size : Int) := by omega
            have b5 : (5 : Int) ≤ (u.size : Int) := by omega
            have b5n : (21 : Int) ≤ (u.size : Int) := by omega
            have HNB := Lib.hid (Blk.new wr.drew 38 (rowC 0 false z16 0 (.slice none 0 0)))
            have HE1 := Lib.hid ha1
            have HE2 := Lib.hid ha2
            clear ha1 ha2
            refine wp_region_T [10] (.c 0 0 (.c 1 0 (.c 4 0 (.c 5 0 (.f 2 9 (.c 3 0 (.f 6 9 (.c 7 0 (.c 8 0 (.c 9 2 (.c 10 3 .n)))) (.c 6 2 (.c 7 0 (.c 8 0 (.c 10 3 .n)))))) (.c 2 2 (.c 3 0 (.c 6 2 (.c 7 0 (.c 8 0 (.c 10 3 .n))))))))))) (fun _ => True) (by kernel_rfl) (by kernel_rfl) (fun d _ _ _ _ h => by cases d <;> exact h) ?_
            repeat (first | (refine T_take (v := ?_) rfl rfl ?_ ?_; rotate_left; (focus (intro w0; go_simp; try with_reducible rfl)); simp only [List.getElem_toArray, List.getElem_cons_succ, List.getElem_cons_zero, Act.put, List.setIfInBounds_toArray, List.set_cons_zero, List.set_cons_succ]) | (refine T_held (v := ?_) rfl rfl trivial ?_ ?_; rotate_left; (focus (intro w0 hSw; (try dsimp only at hSw); go_split_ands; go_simp; try with_reducible rfl)); simp only [List.getElem_toArray, List.getElem_cons_succ, List.getElem_cons_zero, Act.put, List.setIfInBounds_toArray, List.set_cons_zero, List.set_cons_succ]))
            (refine T_fork rfl rfl rfl rfl (fun K hK => ?fa16) (fun K hK => ?fb16) <;> (try simp only [List.getElem_toArray, List.getElem_cons_succ, List.getElem_cons_zero]))
            case' fa16 =>
              go_simp
              refine (refNum_any _ HA1.out.1 _).mono ?_; rintro e wx ⟨rfl, rfl⟩
              rw [HA1.out.2]
              refine hK _ _ trivial ?_
              clear hK K
              try simp only [List.getElem_toArray, List.getElem_cons_succ, List.getElem_cons_zero, Act.put, List.setIfInBounds_toArray, List.set_cons_zero, List.set_cons_succ]
              repeat (first | (refine T_take (v := ?_) rfl rfl ?_ ?_; rotate_left; (focus (intro w0; go_simp; try with_reducible rfl)); simp only [List.getElem_toArray, List.getElem_cons_succ, List.getElem_cons_zero, Act.put, List.setIfInBounds_toArray, List.set_cons_zero, List.set_cons_succ]) | (refine T_held (v := ?_) rfl rfl trivial ?_ ?_; rotate_left; (focus (intro w0 hSw; (try dsimp only at hSw); go_split_ands; go_simp; try with_reducible rfl)); simp only [List.getElem_toArray, List.getElem_cons_succ, List.getElem_cons_zero, Act.put, List.setIfInBounds_toArray, List.set_cons_zero, List.set_cons_succ]))
              (refine T_fork rfl rfl rfl rfl (fun K hK => ?fc16) (fun K hK => ?fd16) <;> (try simp only [List.getElem_toArray, List.getElem_cons_succ, List.getElem_cons_zero]))
            case' fc16 =>
              go_simp
              refine (refNum_any _ HA2.out.1 _).mono ?_; rintro e wx ⟨rfl, rfl⟩
              rw [HA2.out.2]
              refine hK _ _ trivial ?_
              clear hK K
              try simp only [List.getElem_toArray, List.getElem_cons_succ, List.getElem_cons_zero, Act.put, List.setIfInBounds_toArray, List.set_cons_zero, List.set_cons_succ]
              repeat (first | (refine T_take (v := ?_) rfl rfl ?_ ?_; rotate_left; (focus (intro w0; go_simp; try with_reducible rfl)); simp only [List.getElem_toArray, List.getElem_cons_succ, List.getElem_cons_zero, Act.put, List.setIfInBounds_toArray, List.set_cons_zero, List.set_cons_succ]) | (refine T_held (v := ?_) rfl rfl trivial ?_ ?_; rotate_left; (focus (intro w0 hSw; (try dsimp only at hSw); go_split_ands; go_simp; try with_reducible rfl)); simp only [List.getElem_toArray, List.getElem_cons_succ, List.getElem_cons_zero, Act.put, List.setIfInBounds_toArray, List.set_cons_zero, List.set_cons_succ]))
              (refine T_do rfl rfl fun K hK => ?_; (try simp only [List.getElem_toArray, List.getElem_cons_succ, List.getElem_cons_zero]))
              go_simp
              refine hK _ _ trivial ?_
              clear hK K
              try simp only [List.getElem_toArray, List.getElem_cons_succ, List.getElem_cons_zero, Act.put, List.setIfInBounds_toArray, List.set_cons_zero, List.set_cons_succ]
              repeat (first | (refine T_take (v := ?_) rfl rfl ?_ ?_; rotate_left; (focus (intro w0; go_simp; try with_reducible rfl)); simp only [List.getElem_toArray, List.getElem_cons_succ, List.getElem_cons_zero, Act.put, List.setIfInBounds_toArray, List.set_cons_zero, List.set_cons_succ]) | (refine T_held (v := ?_) rfl rfl trivial ?_ ?_; rotate_left; (focus (intro w0 hSw; (try dsimp only at hSw); go_split_ands; go_simp; try with_reducible rfl)); simp only [List.getElem_toArray, List.getElem_cons_succ, List.getElem_cons_zero, Act.put, List.setIfInBounds_toArray, List.set_cons_zero, List.set_cons_succ]))
              (refine T_end rfl rfl rfl fun K hK => ?_; (try simp only [List.getElem_toArray, List.getElem_cons_succ, List.getElem_cons_zero]))
              refine wp_store_blkW 38 _ _ rfl wr.drew.heap.size 0 38 (rowC 0 false z16 0 (.slice none 0 0)) (rowC a1 false z16 a2 (.slice none 0 0)) rfl rfl HNB.out (by rw [rowC_len _ _ _ _ _ rfl, rowC_len _ _ _ _ _ rfl]; decide) (by rw [rowC_len _ _ _ _ _ rfl]; exact HRS.out) (rowC_one _ _ _ _ _ rfl) ?_
              intro w4 HL4 HM4
              refine hK _ _ ?_
              clear hK K
              try simp only [List.getElem_toArray, List.getElem_cons_succ, List.getElem_cons_zero, Act.put, List.setIfInBounds_toArray, List.set_cons_zero, List.set_cons_succ]
              refine T_nil ?_
            case' fd16 =>
              go_simp
              refine hK _ _ trivial ?_
              clear hK K
              try simp only [List.getElem_toArray, List.getElem_cons_succ, List.getElem_cons_zero, Act.put, List.setIfInBounds_toArray, List.set_cons_zero, List.set_cons_succ]
              repeat (first | (refine T_take (v := ?_) rfl rfl ?_ ?_; rotate_left; (focus (intro w0; go_simp; try with_reducible rfl)); simp only [List.getElem_toArray, List.getElem_cons_succ, List.getElem_cons_zero, Act.put, List.setIfInBounds_toArray, List.set_cons_zero, List.set_cons_succ]) | (refine T_held (v := ?_) rfl rfl trivial ?_ ?_; rotate_left; (focus (intro w0 hSw; (try dsimp only at hSw); go_split_ands; go_simp; try with_reducible rfl)); simp only [List.getElem_toArray, List.getElem_cons_succ, List.getElem_cons_zero, Act.put, List.setIfInBounds_toArray, List.set_cons_zero, List.set_cons_succ]))
              (refine T_do rfl rfl fun K hK => ?_; (try simp only [List.getElem_toArray, List.getElem_cons_succ, List.getElem_cons_zero]))
              go_simp
              refine (refNum_any _ HA2.out.1 _).mono ?_; rintro e wx ⟨rfl, rfl⟩
              rw [HA2.out.2]
              refine hK _ _ trivial ?_
              clear hK K
              try simp only [List.getElem_toArray, List.getElem_cons_succ, List.getElem_cons_zero, Act.put, List.setIfInBounds_toArray, List.set_cons_zero, List.set_cons_succ]
              repeat (first | (refine T_take (v := ?_) rfl rfl ?_ ?_; rotate_left; (focus (intro w0; go_simp; try with_reducible rfl)); simp only [List.getElem_toArray, List.getElem_cons_succ, List.getElem_cons_zero, Act.put, List.setIfInBounds_toArray, List.set_cons_zero, List.set_cons_succ]) | (refine T_held (v := ?_) rfl rfl trivial ?_ ?_; rotate_left; (focus (intro w0 hSw; (try dsimp only at hSw); go_split_ands; go_simp; try with_reducible rfl)); simp only [List.getElem_toArray, List.getElem_cons_succ, List.getElem_cons_zero, Act.put, List.setIfInBounds_toArray, List.set_cons_zero, List.set_cons_succ]))
              (refine T_end rfl rfl rfl fun K hK => ?_; (try simp only [List.getElem_toArray, List.getElem_cons_succ, List.getElem_cons_zero]))
              refine wp_store_blkW 38 _ _ rfl wr.drew.heap.size 0 38 (rowC 0 false z16 0 (.slice none 0 0)) (rowC a1 false z16 a2 (.slice none 0 0)) rfl rfl HNB.out (by rw [rowC_len _ _ _ _ _ rfl, rowC_len _ _ _ _ _ rfl]; decide) (by rw [rowC_len _ _ _ _ _ rfl]; exact HRS.out) (rowC_one _ _ _ _ _ rfl) ?_
              intro w4 HL4 HM4
              refine hK _ _ ?_
              clear hK K
              try simp only [List.getElem_toArray, List.getElem_cons_succ, List.getElem_cons_zero, Act.put, List.setIfInBounds_toArray, List.set_cons_zero, List.set_cons_succ]
              refine T_nil ?_
            case' fb16 =>
              go_simp
              refine hK _ _ trivial ?_
              clear hK K
              try simp only [List.getElem_toArray, List.getElem_cons_succ, List.getElem_cons_zero, Act.put, List.setIfInBounds_toArray, List.set_cons_zero, List.set_cons_succ]
              repeat (first | (refine T_take (v := ?_) rfl rfl ?_ ?_; rotate_left; (focus (intro w0; go_simp; try with_reducible rfl)); simp only [List.getElem_toArray, List.getElem_cons_succ, List.getElem_cons_zero, Act.put, List.setIfInBounds_toArray, List.set_cons_zero, List.set_cons_succ]) | (refine T_held (v := ?_) rfl rfl trivial ?_ ?_; rotate_left; (focus (intro w0 hSw; (try dsimp only at hSw); go_split_ands; go_simp; try with_reducible rfl)); simp only [List.getElem_toArray, List.getElem_cons_succ, List.getElem_cons_zero, Act.put, List.setIfInBounds_toArray, List.set_cons_zero, List.set_cons_succ]))
              (refine T_do rfl rfl fun K hK => ?_; (try simp only [List.getElem_toArray, List.getElem_cons_succ, List.getElem_cons_zero]))
              go_simp
              refine (refNum_any _ HA1.out.1 _).mono ?_; rintro e wx ⟨rfl, rfl⟩
              rw [HA1.out.2]
              refine hK _ _ trivial ?_
              clear hK K
              try simp only [List.getElem_toArray, List.getElem_cons_succ, List.getElem_cons_zero, Act.put, List.setIfInBounds_toArray, List.set_cons_zero, List.set_cons_succ]
              repeat (first | (refine T_take (v := ?_) rfl rfl ?_ ?_; rotate_left; (focus (intro w0; go_simp; try with_reducible rfl)); simp only [List.getElem_toArray, List.getElem_cons_succ, List.getElem_cons_zero, Act.put, List.setIfInBounds_toArray, List.set_cons_zero, List.set_cons_succ]) | (refine T_held (v := ?_) rfl rfl trivial ?_ ?_; rotate_left; (focus (intro w0 hSw; (try dsimp only at hSw); go_split_ands; go_simp; try with_reducible rfl)); simp only [List.getElem_toArray, List.getElem_cons_succ, List.getElem_cons_zero, Act.put, List.setIfInBounds_toArray, List.set_cons_zero, List.set_cons_succ]))
              (refine T_do rfl rfl fun K hK => ?_; (try simp only [List.getElem_toArray, List.getElem_cons_succ, List.getElem_cons_zero]))
              go_simp
              refine (refNum_any _ HA2.out.1 _).mono ?_; rintro e wx ⟨rfl, rfl⟩
              rw [HA2.out.2]
              refine hK _ _ trivial ?_
              clear hK K
              try simp only [List.getElem_toArray, List.getElem_cons_succ, List.getElem_cons_zero, Act.put, List.setIfInBounds_toArray, List.set_cons_zero, List.set_cons_succ]
              repeat (first | (refine T_take (v := ?_) rfl rfl ?_ ?_; rotate_left; (focus (intro w0; go_simp; try with_reducible rfl)); simp only [List.getElem_toArray, List.getElem_cons_succ, List.getElem_cons_zero, Act.put, List.setIfInBounds_toArray, List.set_cons_zero, List.set_cons_succ]) | (refine T_held (v := ?_) rfl rfl trivial ?_ ?_; rotate_left; (focus (intro w0 hSw; (try dsimp only at hSw); go_split_ands; go_simp; try with_reducible rfl)); simp only [List.getElem_toArray, List.getElem_cons_succ, List.getElem_cons_zero, Act.put, List.setIfInBounds_toArray, List.set_cons_zero, List.set_cons_succ]))
              (refine T_end rfl rfl rfl fun K hK => ?_; (try simp only [List.getElem_toArray, List.getElem_cons_succ, List.getElem_cons_zero]))
              refine wp_store_blkW 38 _ _ rfl wr.drew.heap.size 0 38 (rowC 0 false z16 0 (.slice none 0 0)) (rowC a1 false z16 a2 (.slice none 0 0)) rfl rfl HNB.out (by rw [rowC_len _ _ _ _ _ rfl, rowC_len _ _ _ _ _ rfl]; decide) (by rw [rowC_len _ _ _ _ _ rfl]; exact HRS.out) (rowC_one _ _ _ _ _ rfl) ?_
              intro w4 HL4 HM4
              refine hK _ _ ?_
              clear hK K
              try simp only [List.getElem_toArray, List.getElem_cons_succ, List.getElem_cons_zero, Act.put, List.setIfInBounds_toArray, List.set_cons_zero, List.set_cons_succ]
              refine T_nil ?_
            all_goals
              have HL := Lib.hid (show Blk w4 wr.heap.size 38 (rowC a1 false z16 a2 (.slice none 0 0)) from splice_all HL4.out (by rw [rowC_len _ _ _ _ _ rfl, rowC_len _ _ _ _ _ rfl]))
              have hm4 : Mod (fun _ => False) wr w4 := ((Mod.refl _ _).alloc _).drew.trans HM4.out fun x hx => .inr (by rw [hx]; exact Nat.le_refl _)
              have HJ4 := Lib.hid (HJ.out.calm hm4)
              have HRB : Hid (∃ sv, RowsOwn w4 (fun k => w.heap.size ≤ k ∧ k < wr.heap.size) u4 (st s j).rs sv) := Lib.hid (HJ.out.row.elim fun sv hr => ⟨sv, hr.below.keep hm4 fun _ _ f => f⟩)
              obtain ⟨p7, hp7⟩ : ∃ p7, p7 = wr.heap.size := ⟨_, rfl⟩
              have HP7 : Hid (w.heap.size ≤ p7) := Lib.hid (by rw [hp7]; exact HJ.out.mod.size)
              rw [← hp7] at HL HRB
              rw [← hp7]
              have HAD := Lib.hid (HTL.out.adr (n := 16) (by omega))
              have HKV : Hid (decide (16 = 16) = true) := Lib.hid rfl
              clear hp7 hm4 HL4 HM4 HNB HJ
              go_wp2_with fail
              refine (refARead_any _ 16 (by decide) HAD.out.1 _).mono ?_; rintro e w5 ⟨rfl, hm5⟩
              rw [HAD.out.2]
              obtain ⟨X, hX⟩ : ∃ X, X = adrAt s (p + 5) 16 := ⟨_, rfl⟩
              have HX := Lib.hid hX
              have HXL : Hid (X.length = 16) := Lib.hid (by rw [hX]; exact adrAt_len _ _ _)
              rw [← hX]
              have HL5 := Lib.hid (HL.out.keep hm5 fun f => f)
              have HJ5 := Lib.hid (HJ4.out.calm hm5)
              have HRB5 : Hid (∃ sv, RowsOwn w5 (fun k => w.heap.size ≤ k ∧ k < p7) u4 (st s j).rs sv) := Lib.hid (HRB.out.elim fun sv hr => ⟨sv, hr.keep hm5 fun _ _ f => f⟩)
              clear hm5 hX HL HJ4 HRB
              go_wp2_with (first | (refine wpList_store_blk rfl _ _ _ rfl p7 1 38 (rowC a1 false z16 a2 (.slice none 0 0)) (adrC true X) rfl rfl HL5.out (by rw [rowC_len _ _ _ _ _ rfl, adrC_len, HXL.out]; decide) (by rw [adrC_len, HXL.out]; exact HAS.out) (adrC_one _ _) ?_; intro w6 HL6 HM6))
              rw [rowC_adr _ _ _ _ _ _ _ rfl HXL.out] at HL6
              obtain ⟨hj6, hr6⟩ := HJ5.out.far p7 HRB5.out HM6.out (fun k hk => ⟨by omega, by have := HP7.out; omega⟩)
              have HJ6 := Lib.hid hj6
              have HRB6 := Lib.hid hr6
              have HRO := Lib.hid (Row.nil w6 (fun k => p7 < k) 3 1)
              clear hj6 hr6 HL5 HJ5 HRB5 HM6
              go_loopw [9] (fun kv wr => ∃ (k : Nat) (v' : Value), k ≤ N ∧ kv = .int .i64 (k : Int) ∧ RefK s w wr p7 (rowC a1 true X a2) (p + 6 + 16) u u4 is j k v') (fun kv _ => N - (intOf kv).toNat)
              case atStart => exact ⟨0, _, Nat.zero_le _, rfl, HL6.out, HRO.out, HJ6.out, HRB6.out⟩
              case round =>
                obtain ⟨k, v', hk, rfl, hKK⟩ := hrel
                obtain ⟨ad', cp', rfl, hkc, hkm, _⟩ := hKK.row.form
                have HK := Lib.hid hKK
                clear hKK HL6 HRO HJ6 HRB6
                by_cases hkN : k < N
                · have k22 : IntKind.i64.wrap 22 = 22 := rfl
                  have k24 : IntKind.i64.wrap 24 = 24 := rfl
                  obtain ⟨q, hq⟩ : ∃ q, q = 22 + 2 * k := ⟨_, rfl⟩
                  obtain ⟨q2, hq2⟩ : ∃ q2, q2 = q + 2 := ⟨_, rfl⟩
                  have hqu : q2 ≤ u.size := by have := HUS.out; omega
                  have hqq : q ≤ q2 := by omega
                  have e1 : IntKind.i64.wrap (2 * (k : Int)) = 2 * (k : Int) := IntWalk.i64_in _ (by omega)
                  have e2 : IntKind.i64.wrap (22 + 2 * (k : Int)) = (q : Int) := by rw [show 22 + 2 * (k : Int) = (q : Int) by omega]; exact IntWalk.i64_in _ (by omega)
                  have e3 : IntKind.i64.wrap (24 + 2 * (k : Int)) = (q2 : Int) := by rw [show 24 + 2 * (k : Int) = (q2 : Int) by omega]; exact IntWalk.i64_in _ (by omega)
                  have e2' : (22 : Int) + 2 * (k : Int) = (q : Int) := by omega
                  have e3' : (24 : Int) + 2 * (k : Int) = (q2 : Int) := by omega
                  have kq : IntKind.i64.wrap (q : Int) = (q : Int) := IntWalk.i64_in _ (by omega)
                  have kq2 : IntKind.i64.wrap (q2 : Int) = (q2 : Int) := IntWalk.i64_in _ (by omega)
                  obtain ⟨a9, ha9⟩ : ∃ a9, a9 = num2 s (p + q) := ⟨_, rfl⟩
                  have HA9 : Hid ((u.extract q q2).size ≤ 2 ∧ numB (u.extract q q2) 0 (u.extract q q2).size = a9) := Lib.hid (by rw [ha9, hq2]; exact HTL.out.num q (by have := HUS.out; omega))
                  have bd9 : 0 ≤ a9 ∧ a9 < 65536 := by rw [ha9]; exact num2_bd _ _
                  have v9 : IntKind.i64.wrap a9 = a9 := IntWalk.i64_in _ (by omega)
                  have HN9 : Hid (a9 = num2 s (p + 6 + 16 + 2 * k)) := Lib.hid (by rw [ha9]; congr 1; omega)
                  have hS : wr.drew.cell? ⟨p7, 19, none⟩ = some (.slice ad' k cp') := HK.out.own.cell (rowC_19 _ _ _ _ _ HXL.out)
                  clear hq hq2 ha9
                  go_wp2_with fail
                  refine wp_region_plan [17, 19] [(0, 0), (1, 1), (2, 0), (3, 0), (4, 0), (5, 0), (6, 0), (7, 0), (8, 0), (9, 0), (10, 0), (11, 0), (12, 0), (13, 0), (14, 2), (15, 0), (16, 2), (17, 3), (18, 0), (19, 3)] (fun w' : World => w'.cell? ⟨p7, 19, none⟩ = some (.slice ad' k cp')) (by kernel_rfl) (by kernel_rfl) (fun d _ _ _ _ h => by cases d <;> exact h) ?_
                  repeat (first | (refine plan_skip rfl rfl ?_; simp only [List.getElem_toArray, List.getElem_cons_succ, List.getElem_cons_zero, Act.put, List.setIfInBounds_toArray, List.set_cons_zero, List.set_cons_succ]) | (refine plan_pass2 rfl rfl ?_; simp only [List.getElem_toArray, List.getElem_cons_succ, List.getElem_cons_zero, Act.put, List.setIfInBounds_toArray, List.set_cons_zero, List.set_cons_succ]) | (refine plan_pass3 rfl rfl ?_; simp only [List.getElem_toArray, List.getElem_cons_succ, List.getElem_cons_zero, Act.put, List.setIfInBounds_toArray, List.set_cons_zero, List.set_cons_succ]) | (refine plan_take (v := ?_) rfl rfl ?_ ?_; rotate_left; (focus (intro w0; go_simp; try with_reducible rfl)); simp only [List.getElem_toArray, List.getElem_cons_succ, List.getElem_cons_zero, Act.put, List.setIfInBounds_toArray, List.set_cons_zero, List.set_cons_succ]) | (refine plan_held (v := ?_) rfl rfl hS ?_ ?_; rotate_left; (focus (intro w0 hSw; (try dsimp only at hSw); go_split_ands; go_simp; try with_reducible rfl)); simp only [List.getElem_toArray, List.getElem_cons_succ, List.getElem_cons_zero, Act.put, List.setIfInBounds_toArray, List.set_cons_zero, List.set_cons_succ])  | (refine plan_skip1 rfl rfl hS ?_; simp only [List.getElem_toArray, List.getElem_cons_succ, List.getElem_cons_zero, Act.put, List.setIfInBounds_toArray, List.set_cons_zero, List.set_cons_succ]))
                  (refine plan_do rfl rfl fun K hK => ?_; try simp only [List.getElem_toArray, List.getElem_cons_succ, List.getElem_cons_zero])
                  go_simp
                  refine (refNum_any _ HA9.out.1 _).mono ?_; rintro e wx ⟨rfl, rfl⟩
                  rw [HA9.out.2]
                  refine hK _ _ hS ?_
                  clear hK K
                  try simp only [List.getElem_toArray, List.getElem_cons_succ, List.getElem_cons_zero, Act.put, List.setIfInBounds_toArray, List.set_cons_zero, List.set_cons_succ]
                  repeat (first | (refine plan_skip rfl rfl ?_; simp only [List.getElem_toArray, List.getElem_cons_succ, List.getElem_cons_zero, Act.put, List.setIfInBounds_toArray, List.set_cons_zero, List.set_cons_succ]) | (refine plan_pass2 rfl rfl ?_; simp only [List.getElem_toArray, List.getElem_cons_succ, List.getElem_cons_zero, Act.put, List.setIfInBounds_toArray, List.set_cons_zero, List.set_cons_succ]) | (refine plan_pass3 rfl rfl ?_; simp only [List.getElem_toArray, List.getElem_cons_succ, List.getElem_cons_zero, Act.put, List.setIfInBounds_toArray, List.set_cons_zero, List.set_cons_succ]) | (refine plan_take (v := ?_) rfl rfl ?_ ?_; rotate_left; (focus (intro w0; go_simp; try with_reducible rfl)); simp only [List.getElem_toArray, List.getElem_cons_succ, List.getElem_cons_zero, Act.put, List.setIfInBounds_toArray, List.set_cons_zero, List.set_cons_succ]) | (refine plan_held (v := ?_) rfl rfl hS ?_ ?_; rotate_left; (focus (intro w0 hSw; (try dsimp only at hSw); go_split_ands; go_simp; try with_reducible rfl)); simp only [List.getElem_toArray, List.getElem_cons_succ, List.getElem_cons_zero, Act.put, List.setIfInBounds_toArray, List.set_cons_zero, List.set_cons_succ])  | (refine plan_skip1 rfl rfl hS ?_; simp only [List.getElem_toArray, List.getElem_cons_succ, List.getElem_cons_zero, Act.put, List.setIfInBounds_toArray, List.set_cons_zero, List.set_cons_succ]))
                  (refine plan_do rfl rfl fun K hK => ?_; (try simp only [List.getElem_toArray, List.getElem_cons_succ, List.getElem_cons_zero]); go_simp; refine hK _ _ (allocCell _ hS) ?_; clear hK K; try simp only [List.getElem_toArray, List.getElem_cons_succ, List.getElem_cons_zero, Act.put, List.setIfInBounds_toArray, List.set_cons_zero, List.set_cons_succ])
                  repeat (first | (refine plan_skip rfl rfl ?_; simp only [List.getElem_toArray, List.getElem_cons_succ, List.getElem_cons_zero, Act.put, List.setIfInBounds_toArray, List.set_cons_zero, List.set_cons_succ]) | (refine plan_pass2 rfl rfl ?_; simp only [List.getElem_toArray, List.getElem_cons_succ, List.getElem_cons_zero, Act.put, List.setIfInBounds_toArray, List.set_cons_zero, List.set_cons_succ]) | (refine plan_pass3 rfl rfl ?_; simp only [List.getElem_toArray, List.getElem_cons_succ, List.getElem_cons_zero, Act.put, List.setIfInBounds_toArray, List.set_cons_zero, List.set_cons_succ]) | (refine plan_take (v := ?_) rfl rfl ?_ ?_; rotate_left; (focus (intro w0; go_simp; try with_reducible rfl)); simp only [List.getElem_toArray, List.getElem_cons_succ, List.getElem_cons_zero, Act.put, List.setIfInBounds_toArray, List.set_cons_zero, List.set_cons_succ]) | fail )
                  (refine plan_end rfl rfl rfl fun K hK => ?_; (try simp only [List.getElem_toArray, List.getElem_cons_succ, List.getElem_cons_zero]))
                  refine wp_append_one Try.elI (.tmp 64) (.tmp 79) rfl #[.int .i64 a9] _ _ _ _ ((show Row wr.drew _ _ _ _ _ _ from HK.out.row).alloc _) _ (allocNew wr.drew _) rfl rfl rfl (by simp [Value.oneCell']) (by omega) (by unfold maxLen; omega) ?_
                  intro v10 w10 hR10 hm10
                  obtain ⟨a10, c10, rfl, _, _, _⟩ := hR10.form
                  have HB10 : Hid (Blk w10 p7 38 (rowC a1 true X a2 (.slice ad' k cp'))) := Lib.hid ((HK.out.own.drew.alloc (.cells #[.int .i64 a9] 3 (0, 0))).keep hm10 fun e => HK.out.row.ne HK.out.own (by decide) e)
                  have HR10 := Lib.hid hR10
                  have HM10 := Lib.hid hm10
                  clear hm10 hR10
                  refine hK _ _ ?_
                  clear hK K
                  try simp only [List.getElem_toArray, List.getElem_cons_succ, List.getElem_cons_zero, Act.put, List.setIfInBounds_toArray, List.set_cons_zero, List.set_cons_succ]
                  repeat (first | (refine plan_skip rfl rfl ?_; simp only [List.getElem_toArray, List.getElem_cons_succ, List.getElem_cons_zero, Act.put, List.setIfInBounds_toArray, List.set_cons_zero, List.set_cons_succ]) | (refine plan_pass2 rfl rfl ?_; simp only [List.getElem_toArray, List.getElem_cons_succ, List.getElem_cons_zero, Act.put, List.setIfInBounds_toArray, List.set_cons_zero, List.set_cons_succ]) | (refine plan_pass3 rfl rfl ?_; simp only [List.getElem_toArray, List.getElem_cons_succ, List.getElem_cons_zero, Act.put, List.setIfInBounds_toArray, List.set_cons_zero, List.set_cons_succ]) | (refine plan_take (v := ?_) rfl rfl ?_ ?_; rotate_left; (focus (intro w0; go_simp; try with_reducible rfl)); simp only [List.getElem_toArray, List.getElem_cons_succ, List.getElem_cons_zero, Act.put, List.setIfInBounds_toArray, List.set_cons_zero, List.set_cons_succ]) | fail )
                  (refine plan_end rfl rfl rfl fun K hK => ?_; (try simp only [List.getElem_toArray, List.getElem_cons_succ, List.getElem_cons_zero]))
                  refine wp_store_blk1 31 _ _ rfl p7 19 38 (rowC a1 true X a2 (.slice ad' k cp')) (.slice a10 (k + 1) c10) rfl rfl HB10.out (by rw [rowC_len _ _ _ _ _ HXL.out]; decide) HLS.out rfl ?_
                  intro w11 HL11 HM11
                  have HK2 := Lib.hid (HK.out.next HXL.out HP7.out HN9.out HR10.out HM10.out HL11.out HM11.out)
                  refine hK _ _ ?_
                  clear hK K HR10 HM10 HL11 HM11 HB10 HK hS
                  try simp only [List.getElem_toArray, List.getElem_cons_succ, List.getElem_cons_zero, Act.put, List.setIfInBounds_toArray, List.set_cons_zero, List.set_cons_succ]
                  repeat (first | (refine plan_skip rfl rfl ?_; simp only [List.getElem_toArray, List.getElem_cons_succ, List.getElem_cons_zero, Act.put, List.setIfInBounds_toArray, List.set_cons_zero, List.set_cons_succ]) | (refine plan_pass2 rfl rfl ?_; simp only [List.getElem_toArray, List.getElem_cons_succ, List.getElem_cons_zero, Act.put, List.setIfInBounds_toArray, List.set_cons_zero, List.set_cons_succ]) | (refine plan_pass3 rfl rfl ?_; simp only [List.getElem_toArray, List.getElem_cons_succ, List.getElem_cons_zero, Act.put, List.setIfInBounds_toArray, List.set_cons_zero, List.set_cons_succ]) | (refine plan_take (v := ?_) rfl rfl ?_ ?_; rotate_left; (focus (intro w0; go_simp; try with_reducible rfl)); simp only [List.getElem_toArray, List.getElem_cons_succ, List.getElem_cons_zero, Act.put, List.setIfInBounds_toArray, List.set_cons_zero, List.set_cons_succ]) | fail )
                  refine plan_nil ?_
                  go_wp2
                  go_roundw
                  case rel => exact ⟨k + 1, _, by omega, by go_num, HK2.out⟩
                  case measure => simp [intOf]; omega
                · obtain rfl : k = N := by omega
                  have k22 : IntKind.i64.wrap 22 = 22 := rfl
                  have eN : IntKind.i64.wrap (2 * (k : Int)) = 2 * (k : Int) := IntWalk.i64_in _ (by omega)
                  obtain ⟨Q, hQ⟩ : ∃ Q, Q = 22 + 2 * k := ⟨_, rfl⟩
                  have eQ : IntKind.i64.wrap (22 + 2 * (k : Int)) = (Q : Int) := by rw [show 22 + 2 * (k : Int) = (Q : Int) by omega]; exact IntWalk.i64_in _ (by omega)
                  have eQ' : (22 : Int) + 2 * (k : Int) = (Q : Int) := by omega
                  have kQ : IntKind.i64.wrap (Q : Int) = (Q : Int) := IntWalk.i64_in _ (by omega)
                  have hQu : Q ≤ u.size := by have := HUS.out; omega
                  have HQ := Lib.hid hQ
                  have HFU : Hid (p + Q ≤ s.size) := Lib.hid (by omega)
                  have HC20 : Hid ((Try.prog.info? 38).map (·.size) = some (rowC a1 true X a2 (.slice ad' k cp')).length) := Lib.hid (by rw [rowC_len _ _ _ _ _ HXL.out]; exact HRS.out)
                  obtain ⟨sv, hrb⟩ := HK.out.rb
                  have HRB := Lib.hid hrb
                  have HSL := Lib.hid (st_le s j)
                  clear w2 w3 hc2 h2 hQ hrb
                  cases is with
                  | true =>
                    go_wp2_with fail
                    refine wp_region_plan [2] [(0, 0), (1, 1), (4, 0), (5, 0), (6, 0), (7, 0), (8, 0), (9, 0), (10, 0), (2, 3), (3, 2), (11, 0), (12, 0)] (fun w' : World => Blk w' p7 38 (rowC a1 true X a2 (.slice ad' k cp')) ∧ True) (by kernel_rfl) (by kernel_rfl) (fun d _ _ _ _ h => by cases d <;> exact h) ?_
                    repeat (first | (refine plan_skip rfl rfl ?_; simp only [List.getElem_toArray, List.getElem_cons_succ, List.getElem_cons_zero, Act.put, List.setIfInBounds_toArray, List.set_cons_zero, List.set_cons_succ]) | (refine plan_pass2 rfl rfl ?_; simp only [List.getElem_toArray, List.getElem_cons_succ, List.getElem_cons_zero, Act.put, List.setIfInBounds_toArray, List.set_cons_zero, List.set_cons_succ]) | (refine plan_pass3 rfl rfl ?_; simp only [List.getElem_toArray, List.getElem_cons_succ, List.getElem_cons_zero, Act.put, List.setIfInBounds_toArray, List.set_cons_zero, List.set_cons_succ]) | (refine plan_take (v := ?_) rfl rfl ?_ ?_; rotate_left; (focus (intro w0; go_simp; try with_reducible rfl)); simp only [List.getElem_toArray, List.getElem_cons_succ, List.getElem_cons_zero, Act.put, List.setIfInBounds_toArray, List.set_cons_zero, List.set_cons_succ]) | fail )
                    (refine plan_held (v := .agg (rowC a1 true X a2 (.slice ad' k cp')).toArray) rfl rfl ⟨HK.out.own.drew, trivial⟩ (fun w0 h0 => exec_load_blk _ _ rfl p7 0 rfl 38 (rowC a1 true X a2 (.slice ad' k cp')) (rowC a1 true X a2 (.slice ad' k cp')) _ w0 h0.1 (List.take_of_length_le (Nat.le_refl _)) Try.underlying38 rfl HC20.out) ?_; try simp only [List.getElem_toArray, List.getElem_cons_succ, List.getElem_cons_zero, Act.put, List.setIfInBounds_toArray, List.set_cons_zero, List.set_cons_succ])
                    repeat (first | (refine plan_skip rfl rfl ?_; simp only [List.getElem_toArray, List.getElem_cons_succ, List.getElem_cons_zero, Act.put, List.setIfInBounds_toArray, List.set_cons_zero, List.set_cons_succ]) | (refine plan_pass2 rfl rfl ?_; simp only [List.getElem_toArray, List.getElem_cons_succ, List.getElem_cons_zero, Act.put, List.setIfInBounds_toArray, List.set_cons_zero, List.set_cons_succ]) | (refine plan_pass3 rfl rfl ?_; simp only [List.getElem_toArray, List.getElem_cons_succ, List.getElem_cons_zero, Act.put, List.setIfInBounds_toArray, List.set_cons_zero, List.set_cons_succ]) | (refine plan_take (v := ?_) rfl rfl ?_ ?_; rotate_left; (focus (intro w0; go_simp; try with_reducible rfl)); simp only [List.getElem_toArray, List.getElem_cons_succ, List.getElem_cons_zero, Act.put, List.setIfInBounds_toArray, List.set_cons_zero, List.set_cons_succ]) | fail )
                    (refine plan_end rfl rfl rfl fun K hK => ?_; (try simp only [List.getElem_toArray, List.getElem_cons_succ, List.getElem_cons_zero]))
                    refine wp_build1 Try.elRow _ rfl (rowC a1 true X a2 (.slice ad' k cp')) rfl (rowC_len _ _ _ _ _ HXL.out) (by decide) (by decide) ?_
                    refine hK _ _ ?_
                    clear hK K
                    try simp only [List.getElem_toArray, List.getElem_cons_succ, List.getElem_cons_zero, Act.put, List.setIfInBounds_toArray, List.set_cons_zero, List.set_cons_succ]
                    (refine plan_do rfl rfl fun K hK => ?_; try simp only [List.getElem_toArray, List.getElem_cons_succ, List.getElem_cons_zero])
                    refine wp_append_one Try.elRow (.tmp 88) (.tmp 90) rfl (rowC a1 true X a2 (.slice ad' k cp')).toArray (fun q => w.heap.size ≤ q ∧ q < p7) u4 (st s j).rs.length (cellsR sv 0 (st s j).rs) ((show Row wr.drew _ _ _ _ _ _ from HRB.out.row).alloc _) wr.drew.heap.size (allocNew wr.drew _) rfl rfl (by simp [rowC_len _ _ _ _ _ HXL.out]) (by simpa using rowC_one _ _ _ _ _ rfl) (by have := HSL.out; have := HP.out; omega) (by have := HSL.out; have := HP.out; unfold maxLen; omega) ?_
                    intro v12 w12 hR12 hm12
                    have HB12 := Lib.hid ((HK.out.own.drew.alloc (.cells (rowC a1 true X a2 (.slice ad' k cp')).toArray 38 (0, 0))).keep hm12 fun e => by have := (HRB.out.row.2 _ e).2; omega)
                    have HJ2 := Lib.hid (refJ_next HK.out HP.out HP7.out HWD.out HN.out HE1.out HE2.out (by simp [hb]) HX.out (by have := HQ.out; omega) HFU.out hlt rfl HRB.out hR12 hm12)
                    refine hK _ _ ⟨HB12.out, trivial⟩ ?_
                    clear hK K hR12 hm12 HB12
                    try simp only [List.getElem_toArray, List.getElem_cons_succ, List.getElem_cons_zero, Act.put, List.setIfInBounds_toArray, List.set_cons_zero, List.set_cons_succ]
                    repeat (first | (refine plan_skip rfl rfl ?_; simp only [List.getElem_toArray, List.getElem_cons_succ, List.getElem_cons_zero, Act.put, List.setIfInBounds_toArray, List.set_cons_zero, List.set_cons_succ]) | (refine plan_pass2 rfl rfl ?_; simp only [List.getElem_toArray, List.getElem_cons_succ, List.getElem_cons_zero, Act.put, List.setIfInBounds_toArray, List.set_cons_zero, List.set_cons_succ]) | (refine plan_pass3 rfl rfl ?_; simp only [List.getElem_toArray, List.getElem_cons_succ, List.getElem_cons_zero, Act.put, List.setIfInBounds_toArray, List.set_cons_zero, List.set_cons_succ]) | (refine plan_take (v := ?_) rfl rfl ?_ ?_; rotate_left; (focus (intro w0; go_simp; try with_reducible rfl)); simp only [List.getElem_toArray, List.getElem_cons_succ, List.getElem_cons_zero, Act.put, List.setIfInBounds_toArray, List.set_cons_zero, List.set_cons_succ]) | fail )
                    refine plan_nil ?_
                    go_wp2
                    go_roundw
                    case rel => exact ⟨u.extract Q u.size, _, j + 1, rfl, by first | rfl | (simp [hb]; done) | (by_cases h9 : byt s p ≤ 1; (simp [h9]; omega); (simp [h9]; omega)), HJ2.out⟩
                    case measure => show (u.extract Q u.size).size < u.size; rw [ByteArray.size_extract]; have := HUS.out; have := HQ.out; omega
                  | false =>
                    go_wp2_with fail
                    refine wp_region_plan [2] [(0, 0), (1, 1), (4, 0), (5, 0), (6, 0), (7, 0), (8, 0), (9, 0), (10, 0), (2, 3), (3, 2), (11, 0), (12, 0)] (fun w' : World => Blk w' p7 38 (rowC a1 true X a2 (.slice ad' k cp')) ∧ True) (by kernel_rfl) (by kernel_rfl) (fun d _ _ _ _ h => by cases d <;> exact h) ?_
                    repeat (first | (refine plan_skip rfl rfl ?_; simp only [List.getElem_toArray, List.getElem_cons_succ, List.getElem_cons_zero, Act.put, List.setIfInBounds_toArray, List.set_cons_zero, List.set_cons_succ]) | (refine plan_pass2 rfl rfl ?_; simp only [List.getElem_toArray, List.getElem_cons_succ, List.getElem_cons_zero, Act.put, List.setIfInBounds_toArray, List.set_cons_zero, List.set_cons_succ]) | (refine plan_pass3 rfl rfl ?_; simp only [List.getElem_toArray, List.getElem_cons_succ, List.getElem_cons_zero, Act.put, List.setIfInBounds_toArray, List.set_cons_zero, List.set_cons_succ]) | (refine plan_take (v := ?_) rfl rfl ?_ ?_; rotate_left; (focus (intro w0; go_simp; try with_reducible rfl)); simp only [List.getElem_toArray, List.getElem_cons_succ, List.getElem_cons_zero, Act.put, List.setIfInBounds_toArray, List.set_cons_zero, List.set_cons_succ]) | fail )
                    (refine plan_held (v := .agg (rowC a1 true X a2 (.slice ad' k cp')).toArray) rfl rfl ⟨HK.out.own.drew, trivial⟩ (fun w0 h0 => exec_load_blk _ _ rfl p7 0 rfl 38 (rowC a1 true X a2 (.slice ad' k cp')) (rowC a1 true X a2 (.slice ad' k cp')) _ w0 h0.1 (List.take_of_length_le (Nat.le_refl _)) Try.underlying38 rfl HC20.out) ?_; try simp only [List.getElem_toArray, List.getElem_cons_succ, List.getElem_cons_zero, Act.put, List.setIfInBounds_toArray, List.set_cons_zero, List.set_cons_succ])
                    repeat (first | (refine plan_skip rfl rfl ?_; simp only [List.getElem_toArray, List.getElem_cons_succ, List.getElem_cons_zero, Act.put, List.setIfInBounds_toArray, List.set_cons_zero, List.set_cons_succ]) | (refine plan_pass2 rfl rfl ?_; simp only [List.getElem_toArray, List.getElem_cons_succ, List.getElem_cons_zero, Act.put, List.setIfInBounds_toArray, List.set_cons_zero, List.set_cons_succ]) | (refine plan_pass3 rfl rfl ?_; simp only [List.getElem_toArray, List.getElem_cons_succ, List.getElem_cons_zero, Act.put, List.setIfInBounds_toArray, List.set_cons_zero, List.set_cons_succ]) | (refine plan_take (v := ?_) rfl rfl ?_ ?_; rotate_left; (focus (intro w0; go_simp; try with_reducible rfl)); simp only [List.getElem_toArray, List.getElem_cons_succ, List.getElem_cons_zero, Act.put, List.setIfInBounds_toArray, List.set_cons_zero, List.set_cons_succ]) | fail )
                    (refine plan_end rfl rfl rfl fun K hK => ?_; (try simp only [List.getElem_toArray, List.getElem_cons_succ, List.getElem_cons_zero]))
                    refine wp_build1 Try.elRow _ rfl (rowC a1 true X a2 (.slice ad' k cp')) rfl (rowC_len _ _ _ _ _ HXL.out) (by decide) (by decide) ?_
                    refine hK _ _ ?_
                    clear hK K
                    try simp only [List.getElem_toArray, List.getElem_cons_succ, List.getElem_cons_zero, Act.put, List.setIfInBounds_toArray, List.set_cons_zero, List.set_cons_succ]
                    (refine plan_do rfl rfl fun K hK => ?_; try simp only [List.getElem_toArray, List.getElem_cons_succ, List.getElem_cons_zero])
                    refine wp_append_one Try.elRow (.tmp 88) (.tmp 90) rfl (rowC a1 true X a2 (.slice ad' k cp')).toArray (fun q => w.heap.size ≤ q ∧ q < p7) u4 (st s j).rs.length (cellsR sv 0 (st s j).rs) ((show Row wr.drew _ _ _ _ _ _ from HRB.out.row).alloc _) wr.drew.heap.size (allocNew wr.drew _) rfl rfl (by simp [rowC_len _ _ _ _ _ HXL.out]) (by simpa using rowC_one _ _ _ _ _ rfl) (by have := HSL.out; have := HP.out; omega) (by have := HSL.out; have := HP.out; unfold maxLen; omega) ?_
                    intro v12 w12 hR12 hm12
                    have HB12 := Lib.hid ((HK.out.own.drew.alloc (.cells (rowC a1 true X a2 (.slice ad' k cp')).toArray 38 (0, 0))).keep hm12 fun e => by have := (HRB.out.row.2 _ e).2; omega)
                    have HJ2 := Lib.hid (refJ_next HK.out HP.out HP7.out HWD.out HN.out HE1.out HE2.out (by simp [hb]) HX.out (by have := HQ.out; omega) HFU.out hlt rfl HRB.out hR12 hm12)
                    refine hK _ _ ⟨HB12.out, trivial⟩ ?_
                    clear hK K hR12 hm12 HB12
                    try simp only [List.getElem_toArray, List.getElem_cons_succ, List.getElem_cons_zero, Act.put, List.setIfInBounds_toArray, List.set_cons_zero, List.set_cons_succ]
                    repeat (first | (refine plan_skip rfl rfl ?_; simp only [List.getElem_toArray, List.getElem_cons_succ, List.getElem_cons_zero, Act.put, List.setIfInBounds_toArray, List.set_cons_zero, List.set_cons_succ]) | (refine plan_pass2 rfl rfl ?_; simp only [List.getElem_toArray, List.getElem_cons_succ, List.getElem_cons_zero, Act.put, List.setIfInBounds_toArray, List.set_cons_zero, List.set_cons_succ]) | (refine plan_pass3 rfl rfl ?_; simp only [List.getElem_toArray, List.getElem_cons_succ, List.getElem_cons_zero, Act.put, List.setIfInBounds_toArray, List.set_cons_zero, List.set_cons_succ]) | (refine plan_take (v := ?_) rfl rfl ?_ ?_; rotate_left; (focus (intro w0; go_simp; try with_reducible rfl)); simp only [List.getElem_toArray, List.getElem_cons_succ, List.getElem_cons_zero, Act.put, List.setIfInBounds_toArray, List.set_cons_zero, List.set_cons_succ]) | fail )
                    refine plan_nil ?_
                    go_wp2
                    go_roundw
                    case rel => exact ⟨u.extract Q u.size, _, j + 1, rfl, by first | rfl | (simp [hb]; done) | (by_cases h9 : byt s p ≤ 1; (simp [h9]; omega); (simp [h9]; omega)), HJ2.out⟩
                    case measure => show (u.extract Q u.size).size < u.size; rw [ByteArray.size_extract]; have := HUS.out; have := HQ.out; omega
      · have hwd : wideAt s p = 4 := by unfold wideAt; simp [hb]
        have hbd : (byt s p == 1) = false := by simp [hb]
        have HWD := Lib.hid hwd
        clear hwd
        by_cases h1 : u.size < 10
        · have hc1 : decide ((u.size : Int) < 10) = true := decide_eq_true (by omega)
          have HNM : Hid (¬ More s (st s j)) := Lib.hid fun h => by
            have h2 := h.2
            rw [← HP.out] at h2
            unfold fullAt nxtAt at h2
            rw [HWD.out] at h2
            have := HUS.out
            omega
          go_wp2
          go_ret2
          exact ⟨j, _, _, rfl, HNM.out, .short (by rw [← HP.out]; exact hlt), HJ.out.mod⟩
        · have hc1 : decide ((u.size : Int) < 10) = false := decide_eq_false (by omega)
          have h5 : 9 < u.size := by omega
          obtain ⟨N, hN⟩ : ∃ N, N = cntAt s p := ⟨_, rfl⟩
          have hNb : N < 256 := by rw [hN]; unfold cntAt; have := byt_bd s (p + 5 + wideAt s p); omega
          have eC : ((u[9].toNat : Nat) : Int) = (N : Int) := by
            rw [HTL.out.get 9 h5, hN]
            unfold cntAt
            rw [HWD.out, show p + 5 + 4 = p + 9 by omega]
            have := byt_bd s (p + 9)
            omega
          have w1 : IntKind.i64.wrap (N : Int) = (N : Int) := IntWalk.i64_in _ (by omega)
          have w2 : IntKind.i64.wrap (2 * (N : Int)) = 2 * (N : Int) := IntWalk.i64_in _ (by omega)
          have w3 : IntKind.i64.wrap (10 + 2 * (N : Int)) = 10 + 2 * (N : Int) := IntWalk.i64_in _ (by omega)
          have HN := Lib.hid hN
          clear hN
          by_cases h2 : u.size < 10 + 2 * N
          · have hc2 : decide ((u.size : Int) < 10 + 2 * (N : Int)) = true := decide_eq_true (by omega)
            have HNM : Hid (¬ More s (st s j)) := Lib.hid fun h => by
              have h3 := h.2
              rw [← HP.out] at h3
              unfold fullAt nxtAt at h3
              rw [HWD.out, ← HN.out] at h3
              have := HUS.out
              omega
            go_wp2
            go_ret2
            exact ⟨j, _, _, rfl, HNM.out, .short (by rw [← HP.out]; exact hlt), HJ.out.mod⟩
          · have hc2 : decide ((u.size : Int) < 10 + 2 * (N : Int)) = false := decide_eq_false (by omega)
            have hful : p + 10 + 2 * N ≤ s.size := by have := HUS.out; omega
            go_wp2_with fail
            obtain ⟨a1, ha1⟩ : ∃ a1, a1 = num2 s (p + 1) := ⟨_, rfl⟩
            obtain ⟨a2, ha2⟩ : ∃ a2, a2 = num2 s (p + 3) := ⟨_, rfl⟩
            have HA1 : Hid ((u.extract 1 3).size ≤ 2 ∧ numB (u.extract 1 3) 0 (u.extract 1 3).size = a1) := Lib.hid (by rw [ha1]; exact HTL.out.num 1 (by omega))
            have HA2 : Hid ((u.extract 3 5).size ≤ 2 ∧ numB (u.extract 3 5) 0 (u.extract 3 5).size = a2) := Lib.hid (by rw [ha2]; exact HTL.out.num 3 (by omega))
            have bd1 : 0 ≤ a1 ∧ a1 < 65536 := by rw [ha1]; exact num2_bd _ _
            have bd2 : 0 ≤ a2 ∧ a2 < 65536 := by rw [ha2]; exact num2_bd _ _
            have v1 : IntKind.i64.wrap a1 = a1 := IntWalk.i64_in _ (by omega)
            have v2 : IntKind.i64.wrap a2 = a2 := IntWalk.i64_in _ (by omega)
            have b3 : (3 : Int) ≤ (u.size : Int) := by omega
            have b5 : (5 : Int) ≤ (u.size : Int) := by omega
            have b5n : (9 : Int) ≤ (u.size : Int) := by omega
            have HNB := Lib.hid (Blk.new wr.drew 38 (rowC 0 false z16 0 (.slice none 0 0)))
            have HE1 := Lib.hid ha1
            have HE2 := Lib.hid ha2
            clear ha1 ha2
            refine wp_region_T [10] (.c 0 0 (.c 1 0 (.c 4 0 (.c 5 0 (.f 2 9 (.c 3 0 (.f 6 9 (.c 7 0 (.c 8 0 (.c 9 2 (.c 10 3 .n)))) (.c 6 2 (.c 7 0 (.c 8 0 (.c 10 3 .n)))))) (.c 2 2 (.c 3 0 (.c 6 2 (.c 7 0 (.c 8 0 (.c 10 3 .n))))))))))) (fun _ => True) (by kernel_rfl) (by kernel_rfl) (fun d _ _ _ _ h => by cases d <;> exact h) ?_
            repeat (first | (refine T_take (v := ?_) rfl rfl ?_ ?_; rotate_left; (focus (intro w0; go_simp; try with_reducible rfl)); simp only [List.getElem_toArray, List.getElem_cons_succ, List.getElem_cons_zero, Act.put, List.setIfInBounds_toArray, List.set_cons_zero, List.set_cons_succ]) | (refine T_held (v := ?_) rfl rfl trivial ?_ ?_; rotate_left; (focus (intro w0 hSw; (try dsimp only at hSw); go_split_ands; go_simp; try with_reducible rfl)); simp only [List.getElem_toArray, List.getElem_cons_succ, List.getElem_cons_zero, Act.put, List.setIfInBounds_toArray, List.set_cons_zero, List.set_cons_succ]))
            (refine T_fork rfl rfl rfl rfl (fun K hK => ?fa4) (fun K hK => ?fb4) <;> (try simp only [List.getElem_toArray, List.getElem_cons_succ, List.getElem_cons_zero]))
            case' fa4 =>
              go_simp
              refine (refNum_any _ HA1.out.1 _).mono ?_; rintro e wx ⟨rfl, rfl⟩
              rw [HA1.out.2]
              refine hK _ _ trivial ?_
              clear hK K
              try simp only [List.getElem_toArray, List.getElem_cons_succ, List.getElem_cons_zero, Act.put, List.setIfInBounds_toArray, List.set_cons_zero, List.set_cons_succ]
              repeat (first | (refine T_take (v := ?_) rfl rfl ?_ ?_; rotate_left; (focus (intro w0; go_simp; try with_reducible rfl)); simp only [List.getElem_toArray, List.getElem_cons_succ, List.getElem_cons_zero, Act.put, List.setIfInBounds_toArray, List.set_cons_zero, List.set_cons_succ]) | (refine T_held (v := ?_) rfl rfl trivial ?_ ?_; rotate_left; (focus (intro w0 hSw; (try dsimp only at hSw); go_split_ands; go_simp; try with_reducible rfl)); simp only [List.getElem_toArray, List.getElem_cons_succ, List.getElem_cons_zero, Act.put, List.setIfInBounds_toArray, List.set_cons_zero, List.set_cons_succ]))
              (refine T_fork rfl rfl rfl rfl (fun K hK => ?fc4) (fun K hK => ?fd4) <;> (try simp only [List.getElem_toArray, List.getElem_cons_succ, List.getElem_cons_zero]))
            case' fc4 =>
              go_simp
              refine (refNum_any _ HA2.out.1 _).mono ?_; rintro e wx ⟨rfl, rfl⟩
              rw [HA2.out.2]
              refine hK _ _ trivial ?_
              clear hK K
              try simp only [List.getElem_toArray, List.getElem_cons_succ, List.getElem_cons_zero, Act.put, List.setIfInBounds_toArray, List.set_cons_zero, List.set_cons_succ]
              repeat (first | (refine T_take (v := ?_) rfl rfl ?_ ?_; rotate_left; (focus (intro w0; go_simp; try with_reducible rfl)); simp only [List.getElem_toArray, List.getElem_cons_succ, List.getElem_cons_zero, Act.put, List.setIfInBounds_toArray, List.set_cons_zero, List.set_cons_succ]) | (refine T_held (v := ?_) rfl rfl trivial ?_ ?_; rotate_left; (focus (intro w0 hSw; (try dsimp only at hSw); go_split_ands; go_simp; try with_reducible rfl)); simp only [List.getElem_toArray, List.getElem_cons_succ, List.getElem_cons_zero, Act.put, List.setIfInBounds_toArray, List.set_cons_zero, List.set_cons_succ]))
              (refine T_do rfl rfl fun K hK => ?_; (try simp only [List.getElem_toArray, List.getElem_cons_succ, List.getElem_cons_zero]))
              go_simp
              refine hK _ _ trivial ?_
              clear hK K
              try simp only [List.getElem_toArray, List.getElem_cons_succ, List.getElem_cons_zero, Act.put, List.setIfInBounds_toArray, List.set_cons_zero, List.set_cons_succ]
              repeat (first | (refine T_take (v := ?_) rfl rfl ?_ ?_; rotate_left; (focus (intro w0; go_simp; try with_reducible rfl)); simp only [List.getElem_toArray, List.getElem_cons_succ, List.getElem_cons_zero, Act.put, List.setIfInBounds_toArray, List.set_cons_zero, List.set_cons_succ]) | (refine T_held (v := ?_) rfl rfl trivial ?_ ?_; rotate_left; (focus (intro w0 hSw; (try dsimp only at hSw); go_split_ands; go_simp; try with_reducible rfl)); simp only [List.getElem_toArray, List.getElem_cons_succ, List.getElem_cons_zero, Act.put, List.setIfInBounds_toArray, List.set_cons_zero, List.set_cons_succ]))
              (refine T_end rfl rfl rfl fun K hK => ?_; (try simp only [List.getElem_toArray, List.getElem_cons_succ, List.getElem_cons_zero]))
              refine wp_store_blkW 38 _ _ rfl wr.drew.heap.size 0 38 (rowC 0 false z16 0 (.slice none 0 0)) (rowC a1 false z16 a2 (.slice none 0 0)) rfl rfl HNB.out (by rw [rowC_len _ _ _ _ _ rfl, rowC_len _ _ _ _ _ rfl]; decide) (by rw [rowC_len _ _ _ _ _ rfl]; exact HRS.out) (rowC_one _ _ _ _ _ rfl) ?_
              intro w4 HL4 HM4
              refine hK _ _ ?_
              clear hK K
              try simp only [List.getElem_toArray, List.getElem_cons_succ, List.getElem_cons_zero, Act.put, List.setIfInBounds_toArray, List.set_cons_zero, List.set_cons_succ]
              refine T_nil ?_
            case' fd4 =>
              go_simp
              refine hK _ _ trivial ?_
              clear hK K
              try simp only [List.getElem_toArray, List.getElem_cons_succ, List.getElem_cons_zero, Act.put, List.setIfInBounds_toArray, List.set_cons_zero, List.set_cons_succ]
              repeat (first | (refine T_take (v := ?_) rfl rfl ?_ ?_; rotate_left; (focus (intro w0; go_simp; try with_reducible rfl)); simp only [List.getElem_toArray, List.getElem_cons_succ, List.getElem_cons_zero, Act.put, List.setIfInBounds_toArray, List.set_cons_zero, List.set_cons_succ]) | (refine T_held (v := ?_) rfl rfl trivial ?_ ?_; rotate_left; (focus (intro w0 hSw; (try dsimp only at hSw); go_split_ands; go_simp; try with_reducible rfl)); simp only [List.getElem_toArray, List.getElem_cons_succ, List.getElem_cons_zero, Act.put, List.setIfInBounds_toArray, List.set_cons_zero, List.set_cons_succ]))
              (refine T_do rfl rfl fun K hK => ?_; (try simp only [List.getElem_toArray, List.getElem_cons_succ, List.getElem_cons_zero]))
              go_simp
              refine (refNum_any _ HA2.out.1 _).mono ?_; rintro e wx ⟨rfl, rfl⟩
              rw [HA2.out.2]
              refine hK _ _ trivial ?_
              clear hK K
              try simp only [List.getElem_toArray, List.getElem_cons_succ, List.getElem_cons_zero, Act.put, List.setIfInBounds_toArray, List.set_cons_zero, List.set_cons_succ]
              repeat (first | (refine T_take (v := ?_) rfl rfl ?_ ?_; rotate_left; (focus (intro w0; go_simp; try with_reducible rfl)); simp only [List.getElem_toArray, List.getElem_cons_succ, List.getElem_cons_zero, Act.put, List.setIfInBounds_toArray, List.set_cons_zero, List.set_cons_succ]) | (refine T_held (v := ?_) rfl rfl trivial ?_ ?_; rotate_left; (focus (intro w0 hSw; (try dsimp only at hSw); go_split_ands; go_simp; try with_reducible rfl)); simp only [List.getElem_toArray, List.getElem_cons_succ, List.getElem_cons_zero, Act.put, List.setIfInBounds_toArray, List.set_cons_zero, List.set_cons_succ]))
              (refine T_end rfl rfl rfl fun K hK => ?_; (try simp only [List.getElem_toArray, List.getElem_cons_succ, List.getElem_cons_zero]))
              refine wp_store_blkW 38 _ _ rfl wr.drew.heap.size 0 38 (rowC 0 false z16 0 (.slice none 0 0)) (rowC a1 false z16 a2 (.slice none 0 0)) rfl rfl HNB.out (by rw [rowC_len _ _ _ _ _ rfl, rowC_len _ _ _ _ _ rfl]; decide) (by rw [rowC_len _ _ _ _ _ rfl]; exact HRS.out) (rowC_one _ _ _ _ _ rfl) ?_
              intro w4 HL4 HM4
              refine hK _ _ ?_
              clear hK K
              try simp only [List.getElem_toArray, List.getElem_cons_succ, List.getElem_cons_zero, Act.put, List.setIfInBounds_toArray, List.set_cons_zero, List.set_cons_succ]
              refine T_nil ?_
            case' fb4 =>
              go_simp
              refine hK _ _ trivial ?_
              clear hK K
              try simp only [List.getElem_toArray, List.getElem_cons_succ, List.getElem_cons_zero, Act.put, List.setIfInBounds_toArray, List.set_cons_zero, List.set_cons_succ]
              repeat (first | (refine T_take (v := ?_) rfl rfl ?_ ?_; rotate_left; (focus (intro w0; go_simp; try with_reducible rfl)); simp only [List.getElem_toArray, List.getElem_cons_succ, List.getElem_cons_zero, Act.put, List.setIfInBounds_toArray, List.set_cons_zero, List.set_cons_succ]) | (refine T_held (v := ?_) rfl rfl trivial ?_ ?_; rotate_left; (focus (intro w0 hSw; (try dsimp only at hSw); go_split_ands; go_simp; try with_reducible rfl)); simp only [List.getElem_toArray, List.getElem_cons_succ, List.getElem_cons_zero, Act.put, List.setIfInBounds_toArray, List.set_cons_zero, List.set_cons_succ]))
              (refine T_do rfl rfl fun K hK => ?_; (try simp only [List.getElem_toArray, List.getElem_cons_succ, List.getElem_cons_zero]))
              go_simp
              refine (refNum_any _ HA1.out.1 _).mono ?_; rintro e wx ⟨rfl, rfl⟩
              rw [HA1.out.2]
              refine hK _ _ trivial ?_
              clear hK K
              try simp only [List.getElem_toArray, List.getElem_cons_succ, List.getElem_cons_zero, Act.put, List.setIfInBounds_toArray, List.set_cons_zero, List.set_cons_succ]
              repeat (first | (refine T_take (v := ?_) rfl rfl ?_ ?_; rotate_left; (focus (intro w0; go_simp; try with_reducible rfl)); simp only [List.getElem_toArray, List.getElem_cons_succ, List.getElem_cons_zero, Act.put, List.setIfInBounds_toArray, List.set_cons_zero, List.set_cons_succ]) | (refine T_held (v := ?_) rfl rfl trivial ?_ ?_; rotate_left; (focus (intro w0 hSw; (try dsimp only at hSw); go_split_ands; go_simp; try with_reducible rfl)); simp only [List.getElem_toArray, List.getElem_cons_succ, List.getElem_cons_zero, Act.put, List.setIfInBounds_toArray, List.set_cons_zero, List.set_cons_succ]))
              (refine T_do rfl rfl fun K hK => ?_; (try simp only [List.getElem_toArray, List.getElem_cons_succ, List.getElem_cons_zero]))
              go_simp
              refine (refNum_any _ HA2.out.1 _).mono ?_; rintro e wx ⟨rfl, rfl⟩
              rw [HA2.out.2]
              refine hK _ _ trivial ?_
              clear hK K
              try simp only [List.getElem_toArray, List.getElem_cons_succ, List.getElem_cons_zero, Act.put, List.setIfInBounds_toArray, List.set_cons_zero, List.set_cons_succ]
              repeat (first | (refine T_take (v := ?_) rfl rfl ?_ ?_; rotate_left; (focus (intro w0; go_simp; try with_reducible rfl)); simp only [List.getElem_toArray, List.getElem_cons_succ, List.getElem_cons_zero, Act.put, List.setIfInBounds_toArray, List.set_cons_zero, List.set_cons_succ]) | (refine T_held (v := ?_) rfl rfl trivial ?_ ?_; rotate_left; (focus (intro w0 hSw; (try dsimp only at hSw); go_split_ands; go_simp; try with_reducible rfl)); simp only [List.getElem_toArray, List.getElem_cons_succ, List.getElem_cons_zero, Act.put, List.setIfInBounds_toArray, List.set_cons_zero, List.set_cons_succ]))
              (refine T_end rfl rfl rfl fun K hK => ?_; (try simp only [List.getElem_toArray, List.getElem_cons_succ, List.getElem_cons_zero]))
              refine wp_store_blkW 38 _ _ rfl wr.drew.heap.size 0 38 (rowC 0 false z16 0 (.slice none 0 0)) (rowC a1 false z16 a2 (.slice none 0 0)) rfl rfl HNB.out (by rw [rowC_len _ _ _ _ _ rfl, rowC_len _ _ _ _ _ rfl]; decide) (by rw [rowC_len _ _ _ _ _ rfl]; exact HRS.out) (rowC_one _ _ _ _ _ rfl) ?_
              intro w4 HL4 HM4
              refine hK _ _ ?_
              clear hK K
              try simp only [List.getElem_toArray, List.getElem_cons_succ, List.getElem_cons_zero, Act.put, List.setIfInBounds_toArray, List.set_cons_zero, List.set_cons_succ]
              refine T_nil ?_
            all_goals
              have HL := Lib.hid (show Blk w4 wr.heap.size 38 (rowC a1 false z16 a2 (.slice none 0 0)) from splice_all HL4.out (by rw [rowC_len _ _ _ _ _ rfl, rowC_len _ _ _ _ _ rfl]))
              have hm4 : Mod (fun _ => False) wr w4 := ((Mod.refl _ _).alloc _).drew.trans HM4.out fun x hx => .inr (by rw [hx]; exact Nat.le_refl _)
              have HJ4 := Lib.hid (HJ.out.calm hm4)
              have HRB : Hid (∃ sv, RowsOwn w4 (fun k => w.heap.size ≤ k ∧ k < wr.heap.size) u4 (st s j).rs sv) := Lib.hid (HJ.out.row.elim fun sv hr => ⟨sv, hr.below.keep hm4 fun _ _ f => f⟩)
              obtain ⟨p7, hp7⟩ : ∃ p7, p7 = wr.heap.size := ⟨_, rfl⟩
              have HP7 : Hid (w.heap.size ≤ p7) := Lib.hid (by rw [hp7]; exact HJ.out.mod.size)
              rw [← hp7] at HL HRB
              rw [← hp7]
              have HAD := Lib.hid (HTL.out.adr (n := 4) (by omega))
              have HKV : Hid (decide (4 = 16) = false) := Lib.hid rfl
              clear hp7 hm4 HL4 HM4 HNB HJ
              go_wp2_with fail
              refine (refARead_any _ 4 (by decide) HAD.out.1 _).mono ?_; rintro e w5 ⟨rfl, hm5⟩
              rw [HAD.out.2]
              obtain ⟨X, hX⟩ : ∃ X, X = adrAt s (p + 5) 4 := ⟨_, rfl⟩
              have HX := Lib.hid hX
              have HXL : Hid (X.length = 16) := Lib.hid (by rw [hX]; exact adrAt_len _ _ _)
              rw [← hX]
              have HL5 := Lib.hid (HL.out.keep hm5 fun f => f)
              have HJ5 := Lib.hid (HJ4.out.calm hm5)
              have HRB5 : Hid (∃ sv, RowsOwn w5 (fun k => w.heap.size ≤ k ∧ k < p7) u4 (st s j).rs sv) := Lib.hid (HRB.out.elim fun sv hr => ⟨sv, hr.keep hm5 fun _ _ f => f⟩)
              clear hm5 hX HL HJ4 HRB
              go_wp2_with (first | (refine wpList_store_blk rfl _ _ _ rfl p7 1 38 (rowC a1 false z16 a2 (.slice none 0 0)) (adrC false X) rfl rfl HL5.out (by rw [rowC_len _ _ _ _ _ rfl, adrC_len, HXL.out]; decide) (by rw [adrC_len, HXL.out]; exact HAS.out) (adrC_one _ _) ?_; intro w6 HL6 HM6))
              rw [rowC_adr _ _ _ _ _ _ _ rfl HXL.out] at HL6
              obtain ⟨hj6, hr6⟩ := HJ5.out.far p7 HRB5.out HM6.out (fun k hk => ⟨by omega, by have := HP7.out; omega⟩)
              have HJ6 := Lib.hid hj6
              have HRB6 := Lib.hid hr6
              have HRO := Lib.hid (Row.nil w6 (fun k => p7 < k) 3 1)
              clear hj6 hr6 HL5 HJ5 HRB5 HM6
              go_loopw [9] (fun kv wr => ∃ (k : Nat) (v' : Value), k ≤ N ∧ kv = .int .i64 (k : Int) ∧ RefK s w wr p7 (rowC a1 false X a2) (p + 6 + 4) u u4 is j k v') (fun kv _ => N - (intOf kv).toNat)
              case atStart => exact ⟨0, _, Nat.zero_le _, rfl, HL6.out, HRO.out, HJ6.out, HRB6.out⟩
              case round =>
                obtain ⟨k, v', hk, rfl, hKK⟩ := hrel
                obtain ⟨ad', cp', rfl, hkc, hkm, _⟩ := hKK.row.form
                have HK := Lib.hid hKK
                clear hKK HL6 HRO HJ6 HRB6
                by_cases hkN : k < N
                · have k22 : IntKind.i64.wrap 10 = 10 := rfl
                  have k24 : IntKind.i64.wrap 12 = 12 := rfl
                  obtain ⟨q, hq⟩ : ∃ q, q = 10 + 2 * k := ⟨_, rfl⟩
                  obtain ⟨q2, hq2⟩ : ∃ q2, q2 = q + 2 := ⟨_, rfl⟩
                  have hqu : q2 ≤ u.size := by have := HUS.out; omega
                  have hqq : q ≤ q2 := by omega
                  have e1 : IntKind.i64.wrap (2 * (k : Int)) = 2 * (k : Int) := IntWalk.i64_in _ (by omega)
                  have e2 : IntKind.i64.wrap (10 + 2 * (k : Int)) = (q : Int) := by rw [show 10 + 2 * (k : Int) = (q : Int) by omega]; exact IntWalk.i64_in _ (by omega)
                  have e3 : IntKind.i64.wrap (12 + 2 * (k : Int)) = (q2 : Int) := by rw [show 12 + 2 * (k : Int) = (q2 : Int) by omega]; exact IntWalk.i64_in _ (by omega)
                  have e2' : (10 : Int) + 2 * (k : Int) = (q : Int) := by omega
                  have e3' : (12 : Int) + 2 * (k : Int) = (q2 : Int) := by omega
                  have kq : IntKind.i64.wrap (q : Int) = (q : Int) := IntWalk.i64_in _ (by omega)
                  have kq2 : IntKind.i64.wrap (q2 : Int) = (q2 : Int) := IntWalk.i64_in _ (by omega)
                  obtain ⟨a9, ha9⟩ : ∃ a9, a9 = num2 s (p + q) := ⟨_, rfl⟩
                  have HA9 : Hid ((u.extract q q2).size ≤ 2 ∧ numB (u.extract q q2) 0 (u.extract q q2).size = a9) := Lib.hid (by rw [ha9, hq2]; exact HTL.out.num q (by have := HUS.out; omega))
                  have bd9 : 0 ≤ a9 ∧ a9 < 65536 := by rw [ha9]; exact num2_bd _ _
                  have v9 : IntKind.i64.wrap a9 = a9 := IntWalk.i64_in _ (by omega)
                  have HN9 : Hid (a9 = num2 s (p + 6 + 4 + 2 * k)) := Lib.hid (by rw [ha9]; congr 1; omega)
                  have hS : wr.drew.cell? ⟨p7, 19, none⟩ = some (.slice ad' k cp') := HK.out.own.cell (rowC_19 _ _ _ _ _ HXL.out)
                  clear hq hq2 ha9
                  go_wp2_with fail
                  refine wp_region_plan [17, 19] [(0, 0), (1, 1), (2, 0), (3, 0), (4, 0), (5, 0), (6, 0), (7, 0), (8, 0), (9, 0), (10, 0), (11, 0), (12, 0), (13, 0), (14, 2), (15, 0), (16, 2), (17, 3), (18, 0), (19, 3)] (fun w' : World => w'.cell? ⟨p7, 19, none⟩ = some (.slice ad' k cp')) (by kernel_rfl) (by kernel_rfl) (fun d _ _ _ _ h => by cases d <;> exact h) ?_
                  repeat (first | (refine plan_skip rfl rfl ?_; simp only [List.getElem_toArray, List.getElem_cons_succ, List.getElem_cons_zero, Act.put, List.setIfInBounds_toArray, List.set_cons_zero, List.set_cons_succ]) | (refine plan_pass2 rfl rfl ?_; simp only [List.getElem_toArray, List.getElem_cons_succ, List.getElem_cons_zero, Act.put, List.setIfInBounds_toArray, List.set_cons_zero, List.set_cons_succ]) | (refine plan_pass3 rfl rfl ?_; simp only [List.getElem_toArray, List.getElem_cons_succ, List.getElem_cons_zero, Act.put, List.setIfInBounds_toArray, List.set_cons_zero, List.set_cons_succ]) | (refine plan_take (v := ?_) rfl rfl ?_ ?_; rotate_left; (focus (intro w0; go_simp; try with_reducible rfl)); simp only [List.getElem_toArray, List.getElem_cons_succ, List.getElem_cons_zero, Act.put, List.setIfInBounds_toArray, List.set_cons_zero, List.set_cons_succ]) | (refine plan_held (v := ?_) rfl rfl hS ?_ ?_; rotate_left; (focus (intro w0 hSw; (try dsimp only at hSw); go_split_ands; go_simp; try with_reducible rfl)); simp only [List.getElem_toArray, List.getElem_cons_succ, List.getElem_cons_zero, Act.put, List.setIfInBounds_toArray, List.set_cons_zero, List.set_cons_succ])  | (refine plan_skip1 rfl rfl hS ?_; simp only [List.getElem_toArray, List.getElem_cons_succ, List.getElem_cons_zero, Act.put, List.setIfInBounds_toArray, List.set_cons_zero, List.set_cons_succ]))
                  (refine plan_do rfl rfl fun K hK => ?_; try simp only [List.getElem_toArray, List.getElem_cons_succ, List.getElem_cons_zero])
                  go_simp
                  refine (refNum_any _ HA9.out.1 _).mono ?_; rintro e wx ⟨rfl, rfl⟩
                  rw [HA9.out.2]
                  refine hK _ _ hS ?_
                  clear hK K
                  try simp only [List.getElem_toArray, List.getElem_cons_succ, List.getElem_cons_zero, Act.put, List.setIfInBounds_toArray, List.set_cons_zero, List.set_cons_succ]
                  repeat (first | (refine plan_skip rfl rfl ?_; simp only [List.getElem_toArray, List.getElem_cons_succ, List.getElem_cons_zero, Act.put, List.setIfInBounds_toArray, List.set_cons_zero, List.set_cons_succ]) | (refine plan_pass2 rfl rfl ?_; simp only [List.getElem_toArray, List.getElem_cons_succ, List.getElem_cons_zero, Act.put, List.setIfInBounds_toArray, List.set_cons_zero, List.set_cons_succ]) | (refine plan_pass3 rfl rfl ?_; simp only [List.getElem_toArray, List.getElem_cons_succ, List.getElem_cons_zero, Act.put, List.setIfInBounds_toArray, List.set_cons_zero, List.set_cons_succ]) | (refine plan_take (v := ?_) rfl rfl ?_ ?_; rotate_left; (focus (intro w0; go_simp; try with_reducible rfl)); simp only [List.getElem_toArray, List.getElem_cons_succ, List.getElem_cons_zero, Act.put, List.setIfInBounds_toArray, List.set_cons_zero, List.set_cons_succ]) | (refine plan_held (v := ?_) rfl rfl hS ?_ ?_; rotate_left; (focus (intro w0 hSw; (try dsimp only at hSw); go_split_ands; go_simp; try with_reducible rfl)); simp only [List.getElem_toArray, List.getElem_cons_succ, List.getElem_cons_zero, Act.put, List.setIfInBounds_toArray, List.set_cons_zero, List.set_cons_succ])  | (refine plan_skip1 rfl rfl hS ?_; simp only [List.getElem_toArray, List.getElem_cons_succ, List.getElem_cons_zero, Act.put, List.setIfInBounds_toArray, List.set_cons_zero, List.set_cons_succ]))
                  (refine plan_do rfl rfl fun K hK => ?_; (try simp only [List.getElem_toArray, List.getElem_cons_succ, List.getElem_cons_zero]); go_simp; refine hK _ _ (allocCell _ hS) ?_; clear hK K; try simp only [List.getElem_toArray, List.getElem_cons_succ, List.getElem_cons_zero, Act.put, List.setIfInBounds_toArray, List.set_cons_zero, List.set_cons_succ])
                  repeat (first | (refine plan_skip rfl rfl ?_; simp only [List.getElem_toArray, List.getElem_cons_succ, List.getElem_cons_zero, Act.put, List.setIfInBounds_toArray, List.set_cons_zero, List.set_cons_succ]) | (refine plan_pass2 rfl rfl ?_; simp only [List.getElem_toArray, List.getElem_cons_succ, List.getElem_cons_zero, Act.put, List.setIfInBounds_toArray, List.set_cons_zero, List.set_cons_succ]) | (refine plan_pass3 rfl rfl ?_; simp only [List.getElem_toArray, List.getElem_cons_succ, List.getElem_cons_zero, Act.put, List.setIfInBounds_toArray, List.set_cons_zero, List.set_cons_succ]) | (refine plan_take (v := ?_) rfl rfl ?_ ?_; rotate_left; (focus (intro w0; go_simp; try with_reducible rfl)); simp only [List.getElem_toArray, List.getElem_cons_succ, List.getElem_cons_zero, Act.put, List.setIfInBounds_toArray, List.set_cons_zero, List.set_cons_succ]) | fail )
                  (refine plan_end rfl rfl rfl fun K hK => ?_; (try simp only [List.getElem_toArray, List.getElem_cons_succ, List.getElem_cons_zero]))
                  refine wp_append_one Try.elI (.tmp 64) (.tmp 79) rfl #[.int .i64 a9] _ _ _ _ ((show Row wr.drew _ _ _ _ _ _ from HK.out.row).alloc _) _ (allocNew wr.drew _) rfl rfl rfl (by simp [Value.oneCell']) (by omega) (by unfold maxLen; omega) ?_
                  intro v10 w10 hR10 hm10
                  obtain ⟨a10, c10, rfl, _, _, _⟩ := hR10.form
                  have HB10 : Hid (Blk w10 p7 38 (rowC a1 false X a2 (.slice ad' k cp'))) := Lib.hid ((HK.out.own.drew.alloc (.cells #[.int .i64 a9] 3 (0, 0))).keep hm10 fun e => HK.out.row.ne HK.out.own (by decide) e)
                  have HR10 := Lib.hid hR10
                  have HM10 := Lib.hid hm10
                  clear hm10 hR10
                  refine hK _ _ ?_
                  clear hK K
                  try simp only [List.getElem_toArray, List.getElem_cons_succ, List.getElem_cons_zero, Act.put, List.setIfInBounds_toArray, List.set_cons_zero, List.set_cons_succ]
                  repeat (first | (refine plan_skip rfl rfl ?_; simp only [List.getElem_toArray, List.getElem_cons_succ, List.getElem_cons_zero, Act.put, List.setIfInBounds_toArray, List.set_cons_zero, List.set_cons_succ]) | (refine plan_pass2 rfl rfl ?_; simp only [List.getElem_toArray, List.getElem_cons_succ, List.getElem_cons_zero, Act.put, List.setIfInBounds_toArray, List.set_cons_zero, List.set_cons_succ]) | (refine plan_pass3 rfl rfl ?_; simp only [List.getElem_toArray, List.getElem_cons_succ, List.getElem_cons_zero, Act.put, List.setIfInBounds_toArray, List.set_cons_zero, List.set_cons_succ]) | (refine plan_take (v := ?_) rfl rfl ?_ ?_; rotate_left; (focus (intro w0; go_simp; try with_reducible rfl)); simp only [List.getElem_toArray, List.getElem_cons_succ, List.getElem_cons_zero, Act.put, List.setIfInBounds_toArray, List.set_cons_zero, List.set_cons_succ]) | fail )
                  (refine plan_end rfl rfl rfl fun K hK => ?_; (try simp only [List.getElem_toArray, List.getElem_cons_succ, List.getElem_cons_zero]))
                  refine wp_store_blk1 31 _ _ rfl p7 19 38 (rowC a1 false X a2 (.slice ad' k cp')) (.slice a10 (k + 1) c10) rfl rfl HB10.out (by rw [rowC_len _ _ _ _ _ HXL.out]; decide) HLS.out rfl ?_
                  intro w11 HL11 HM11
                  have HK2 := Lib.hid (HK.out.next HXL.out HP7.out HN9.out HR10.out HM10.out HL11.out HM11.out)
                  refine hK _ _ ?_
                  clear hK K HR10 HM10 HL11 HM11 HB10 HK hS
                  try simp only [List.getElem_toArray, List.getElem_cons_succ, List.getElem_cons_zero, Act.put, List.setIfInBounds_toArray, List.set_cons_zero, List.set_cons_succ]
                  repeat (first | (refine plan_skip rfl rfl ?_; simp only [List.getElem_toArray, List.getElem_cons_succ, List.getElem_cons_zero, Act.put, List.setIfInBounds_toArray, List.set_cons_zero, List.set_cons_succ]) | (refine plan_pass2 rfl rfl ?_; simp only [List.getElem_toArray, List.getElem_cons_succ, List.getElem_cons_zero, Act.put, List.setIfInBounds_toArray, List.set_cons_zero, List.set_cons_succ]) | (refine plan_pass3 rfl rfl ?_; simp only [List.getElem_toArray, List.getElem_cons_succ, List.getElem_cons_zero, Act.put, List.setIfInBounds_toArray, List.set_cons_zero, List.set_cons_succ]) | (refine plan_take (v := ?_) rfl rfl ?_ ?_; rotate_left; (focus (intro w0; go_simp; try with_reducible rfl)); simp only [List.getElem_toArray, List.getElem_cons_succ, List.getElem_cons_zero, Act.put, List.setIfInBounds_toArray, List.set_cons_zero, List.set_cons_succ]) | fail )
                  refine plan_nil ?_
                  go_wp2
                  go_roundw
                  case rel => exact ⟨k + 1, _, by omega, by go_num, HK2.out⟩
                  case measure => simp [intOf]; omega
                · obtain rfl : k = N := by omega
                  have k22 : IntKind.i64.wrap 10 = 10 := rfl
                  have eN : IntKind.i64.wrap (2 * (k : Int)) = 2 * (k : Int) := IntWalk.i64_in _ (by omega)
                  obtain ⟨Q, hQ⟩ : ∃ Q, Q = 10 + 2 * k := ⟨_, rfl⟩
                  have eQ : IntKind.i64.wrap (10 + 2 * (k : Int)) = (Q : Int) := by rw [show 10 + 2 * (k : Int) = (Q : Int) by omega]; exact IntWalk.i64_in _ (by omega)
                  have eQ' : (10 : Int) + 2 * (k : Int) = (Q : Int) := by omega
                  have kQ : IntKind.i64.wrap (Q : Int) = (Q : Int) := IntWalk.i64_in _ (by omega)
                  have hQu : Q ≤ u.size := by have := HUS.out; omega
                  have HQ := Lib.hid hQ
                  have HFU : Hid (p + Q ≤ s.size) := Lib.hid (by omega)
                  have HC20 : Hid ((Try.prog.info? 38).map (·.size) = some (rowC a1 false X a2 (.slice ad' k cp')).length) := Lib.hid (by rw [rowC_len _ _ _ _ _ HXL.out]; exact HRS.out)
                  obtain ⟨sv, hrb⟩ := HK.out.rb
                  have HRB := Lib.hid hrb
                  have HSL := Lib.hid (st_le s j)
                  clear w2 w3 hc2 h2 hQ hrb
                  cases is with
                  | true =>
                    go_wp2_with fail
                    refine wp_region_plan [2] [(0, 0), (1, 1), (4, 0), (5, 0), (6, 0), (7, 0), (8, 0), (9, 0), (10, 0), (2, 3), (3, 2), (11, 0), (12, 0)] (fun w' : World => Blk w' p7 38 (rowC a1 false X a2 (.slice ad' k cp')) ∧ True) (by kernel_rfl) (by kernel_rfl) (fun d _ _ _ _ h => by cases d <;> exact h) ?_
                    repeat (first | (refine plan_skip rfl rfl ?_; simp only [List.getElem_toArray, List.getElem_cons_succ, List.getElem_cons_zero, Act.put, List.setIfInBounds_toArray, List.set_cons_zero, List.set_cons_succ]) | (refine plan_pass2 rfl rfl ?_; simp only [List.getElem_toArray, List.getElem_cons_succ, List.getElem_cons_zero, Act.put, List.setIfInBounds_toArray, List.set_cons_zero, List.set_cons_succ]) | (refine plan_pass3 rfl rfl ?_; simp only [List.getElem_toArray, List.getElem_cons_succ, List.getElem_cons_zero, Act.put, List.setIfInBounds_toArray, List.set_cons_zero, List.set_cons_succ]) | (refine plan_take (v := ?_) rfl rfl ?_ ?_; rotate_left; (focus (intro w0; go_simp; try with_reducible rfl)); simp only [List.getElem_toArray, List.getElem_cons_succ, List.getElem_cons_zero, Act.put, List.setIfInBounds_toArray, List.set_cons_zero, List.set_cons_succ]) | fail )
                    (refine plan_held (v := .agg (rowC a1 false X a2 (.slice ad' k cp')).toArray) rfl rfl ⟨HK.out.own.drew, trivial⟩ (fun w0 h0 => exec_load_blk _ _ rfl p7 0 rfl 38 (rowC a1 false X a2 (.slice ad' k cp')) (rowC a1 false X a2 (.slice ad' k cp')) _ w0 h0.1 (List.take_of_length_le (Nat.le_refl _)) Try.underlying38 rfl HC20.out) ?_; try simp only [List.getElem_toArray, List.getElem_cons_succ, List.getElem_cons_zero, Act.put, List.setIfInBounds_toArray, List.set_cons_zero, List.set_cons_succ])
                    repeat (first | (refine plan_skip rfl rfl ?_; simp only [List.getElem_toArray, List.getElem_cons_succ, List.getElem_cons_zero, Act.put, List.setIfInBounds_toArray, List.set_cons_zero, List.set_cons_succ]) | (refine plan_pass2 rfl rfl ?_; simp only [List.getElem_toArray, List.getElem_cons_succ, List.getElem_cons_zero, Act.put, List.setIfInBounds_toArray, List.set_cons_zero, List.set_cons_succ]) | (refine plan_pass3 rfl rfl ?_; simp only [List.getElem_toArray, List.getElem_cons_succ, List.getElem_cons_zero, Act.put, List.setIfInBounds_toArray, List.set_cons_zero, List.set_cons_succ]) | (refine plan_take (v := ?_) rfl rfl ?_ ?_; rotate_left; (focus (intro w0; go_simp; try with_reducible rfl)); simp only [List.getElem_toArray, List.getElem_cons_succ, List.getElem_cons_zero, Act.put, List.setIfInBounds_toArray, List.set_cons_zero, List.set_cons_succ]) | fail )
                    (refine plan_end rfl rfl rfl fun K hK => ?_; (try simp only [List.getElem_toArray, List.getElem_cons_succ, List.getElem_cons_zero]))
                    refine wp_build1 Try.elRow _ rfl (rowC a1 false X a2 (.slice ad' k cp')) rfl (rowC_len _ _ _ _ _ HXL.out) (by decide) (by decide) ?_
                    refine hK _ _ ?_
                    clear hK K
                    try simp only [List.getElem_toArray, List.getElem_cons_succ, List.getElem_cons_zero, Act.put, List.setIfInBounds_toArray, List.set_cons_zero, List.set_cons_succ]
                    (refine plan_do rfl rfl fun K hK => ?_; try simp only [List.getElem_toArray, List.getElem_cons_succ, List.getElem_cons_zero])
                    refine wp_append_one Try.elRow (.tmp 88) (.tmp 90) rfl (rowC a1 false X a2 (.slice ad' k cp')).toArray (fun q => w.heap.size ≤ q ∧ q < p7) u4 (st s j).rs.length (cellsR sv 0 (st s j).rs) ((show Row wr.drew _ _ _ _ _ _ from HRB.out.row).alloc _) wr.drew.heap.size (allocNew wr.drew _) rfl rfl (by simp [rowC_len _ _ _ _ _ HXL.out]) (by simpa using rowC_one _ _ _ _ _ rfl) (by have := HSL.out; have := HP.out; omega) (by have := HSL.out; have := HP.out; unfold maxLen; omega) ?_
                    intro v12 w12 hR12 hm12
                    have HB12 := Lib.hid ((HK.out.own.drew.alloc (.cells (rowC a1 false X a2 (.slice ad' k cp')).toArray 38 (0, 0))).keep hm12 fun e => by have := (HRB.out.row.2 _ e).2; omega)
                    have HJ2 := Lib.hid (refJ_next HK.out HP.out HP7.out HWD.out HN.out HE1.out HE2.out (by simp [hb]) HX.out (by have := HQ.out; omega) HFU.out hlt rfl HRB.out hR12 hm12)
                    refine hK _ _ ⟨HB12.out, trivial⟩ ?_
                    clear hK K hR12 hm12 HB12
                    try simp only [List.getElem_toArray, List.getElem_cons_succ, List.getElem_cons_zero, Act.put, List.setIfInBounds_toArray, List.set_cons_zero, List.set_cons_succ]
                    repeat (first | (refine plan_skip rfl rfl ?_; simp only [List.getElem_toArray, List.getElem_cons_succ, List.getElem_cons_zero, Act.put, List.setIfInBounds_toArray, List.set_cons_zero, List.set_cons_succ]) | (refine plan_pass2 rfl rfl ?_; simp only [List.getElem_toArray, List.getElem_cons_succ, List.getElem_cons_zero, Act.put, List.setIfInBounds_toArray, List.set_cons_zero, List.set_cons_succ]) | (refine plan_pass3 rfl rfl ?_; simp only [List.getElem_toArray, List.getElem_cons_succ, List.getElem_cons_zero, Act.put, List.setIfInBounds_toArray, List.set_cons_zero, List.set_cons_succ]) | (refine plan_take (v := ?_) rfl rfl ?_ ?_; rotate_left; (focus (intro w0; go_simp; try with_reducible rfl)); simp only [List.getElem_toArray, List.getElem_cons_succ, List.getElem_cons_zero, Act.put, List.setIfInBounds_toArray, List.set_cons_zero, List.set_cons_succ]) | fail )
                    refine plan_nil ?_
                    go_wp2
                    go_roundw
                    case rel => exact ⟨u.extract Q u.size, _, j + 1, rfl, by first | rfl | (simp [hb]; done) | (by_cases h9 : byt s p ≤ 1; (simp [h9]; omega); (simp [h9]; omega)), HJ2.out⟩
                    case measure => show (u.extract Q u.size).size < u.size; rw [ByteArray.size_extract]; have := HUS.out; have := HQ.out; omega
                  | false =>
                    go_wp2_with fail
                    refine wp_region_plan [2] [(0, 0), (1, 1), (4, 0), (5, 0), (6, 0), (7, 0), (8, 0), (9, 0), (10, 0), (2, 3), (3, 2), (11, 0), (12, 0)] (fun w' : World => Blk w' p7 38 (rowC a1 false X a2 (.slice ad' k cp')) ∧ True) (by kernel_rfl) (by kernel_rfl) (fun d _ _ _ _ h => by cases d <;> exact h) ?_
                    repeat (first | (refine plan_skip rfl rfl ?_; simp only [List.getElem_toArray, List.getElem_cons_succ, List.getElem_cons_zero, Act.put, List.setIfInBounds_toArray, List.set_cons_zero, List.set_cons_succ]) | (refine plan_pass2 rfl rfl ?_; simp only [List.getElem_toArray, List.getElem_cons_succ, List.getElem_cons_zero, Act.put, List.setIfInBounds_toArray, List.set_cons_zero, List.set_cons_succ]) | (refine plan_pass3 rfl rfl ?_; simp only [List.getElem_toArray, List.getElem_cons_succ, List.getElem_cons_zero, Act.put, List.setIfInBounds_toArray, List.set_cons_zero, List.set_cons_succ]) | (refine plan_take (v := ?_) rfl rfl ?_ ?_; rotate_left; (focus (intro w0; go_simp; try with_reducible rfl)); simp only [List.getElem_toArray, List.getElem_cons_succ, List.getElem_cons_zero, Act.put, List.setIfInBounds_toArray, List.set_cons_zero, List.set_cons_succ]) | fail )
                    (refine plan_held (v := .agg (rowC a1 false X a2 (.slice ad' k cp')).toArray) rfl rfl ⟨HK.out.own.drew, trivial⟩ (fun w0 h0 => exec_load_blk _ _ rfl p7 0 rfl 38 (rowC a1 false X a2 (.slice ad' k cp')) (rowC a1 false X a2 (.slice ad' k cp')) _ w0 h0.1 (List.take_of_length_le (Nat.le_refl _)) Try.underlying38 rfl HC20.out) ?_; try simp only [List.getElem_toArray, List.getElem_cons_succ, List.getElem_cons_zero, Act.put, List.setIfInBounds_toArray, List.set_cons_zero, List.set_cons_succ])
                    repeat (first | (refine plan_skip rfl rfl ?_; simp only [List.getElem_toArray, List.getElem_cons_succ, List.getElem_cons_zero, Act.put, List.setIfInBounds_toArray, List.set_cons_zero, List.set_cons_succ]) | (refine plan_pass2 rfl rfl ?_; simp only [List.getElem_toArray, List.getElem_cons_succ, List.getElem_cons_zero, Act.put, List.setIfInBounds_toArray, List.set_cons_zero, List.set_cons_succ]) | (refine plan_pass3 rfl rfl ?_; simp only [List.getElem_toArray, List.getElem_cons_succ, List.getElem_cons_zero, Act.put, List.setIfInBounds_toArray, List.set_cons_zero, List.set_cons_succ]) | (refine plan_take (v := ?_) rfl rfl ?_ ?_; rotate_left; (focus (intro w0; go_simp; try with_reducible rfl)); simp only [List.getElem_toArray, List.getElem_cons_succ, List.getElem_cons_zero, Act.put, List.setIfInBounds_toArray, List.set_cons_zero, List.set_cons_succ]) | fail )
                    (refine plan_end rfl rfl rfl fun K hK => ?_; (try simp only [List.getElem_toArray, List.getElem_cons_succ, List.getElem_cons_zero]))
                    refine wp_build1 Try.elRow _ rfl (rowC a1 false X a2 (.slice ad' k cp')) rfl (rowC_len _ _ _ _ _ HXL.out) (by decide) (by decide) ?_
                    refine hK _ _ ?_
                    clear hK K
                    try simp only [List.getElem_toArray, List.getElem_cons_succ, List.getElem_cons_zero, Act.put, List.setIfInBounds_toArray, List.set_cons_zero, List.set_cons_succ]
                    (refine plan_do rfl rfl fun K hK => ?_; try simp only [List.getElem_toArray, List.getElem_cons_succ, List.getElem_cons_zero])
                    refine wp_append_one Try.elRow (.tmp 88) (.tmp 90) rfl (rowC a1 false X a2 (.slice ad' k cp')).toArray (fun q => w.heap.size ≤ q ∧ q < p7) u4 (st s j).rs.length (cellsR sv 0 (st s j).rs) ((show Row wr.drew _ _ _ _ _ _ from HRB.out.row).alloc _) wr.drew.heap.size (allocNew wr.drew _) rfl rfl (by simp [rowC_len _ _ _ _ _ HXL.out]) (by simpa using rowC_one _ _ _ _ _ rfl) (by have := HSL.out; have := HP.out; omega) (by have := HSL.out; have := HP.out; unfold maxLen; omega) ?_
                    intro v12 w12 hR12 hm12
                    have HB12 := Lib.hid ((HK.out.own.drew.alloc (.cells (rowC a1 false X a2 (.slice ad' k cp')).toArray 38 (0, 0))).keep hm12 fun e => by have := (HRB.out.row.2 _ e).2; omega)
                    have HJ2 := Lib.hid (refJ_next HK.out HP.out HP7.out HWD.out HN.out HE1.out HE2.out (by simp [hb]) HX.out (by have := HQ.out; omega) HFU.out hlt rfl HRB.out hR12 hm12)
                    refine hK _ _ ⟨HB12.out, trivial⟩ ?_
                    clear hK K hR12 hm12 HB12
                    try simp only [List.getElem_toArray, List.getElem_cons_succ, List.getElem_cons_zero, Act.put, List.setIfInBounds_toArray, List.set_cons_zero, List.set_cons_succ]
                    repeat (first | (refine plan_skip rfl rfl ?_; simp only [List.getElem_toArray, List.getElem_cons_succ, List.getElem_cons_zero, Act.put, List.setIfInBounds_toArray, List.set_cons_zero, List.set_cons_succ]) | (refine plan_pass2 rfl rfl ?_; simp only [List.getElem_toArray, List.getElem_cons_succ, List.getElem_cons_zero, Act.put, List.setIfInBounds_toArray, List.set_cons_zero, List.set_cons_succ]) | (refine plan_pass3 rfl rfl ?_; simp only [List.getElem_toArray, List.getElem_cons_succ, List.getElem_cons_zero, Act.put, List.setIfInBounds_toArray, List.set_cons_zero, List.set_cons_succ]) | (refine plan_take (v := ?_) rfl rfl ?_ ?_; rotate_left; (focus (intro w0; go_simp; try with_reducible rfl)); simp only [List.getElem_toArray, List.getElem_cons_succ, List.getElem_cons_zero, Act.put, List.setIfInBounds_toArray, List.set_cons_zero, List.set_cons_succ]) | fail )
                    refine plan_nil ?_
                    go_wp2
                    go_roundw
                    case rel => exact ⟨u.extract Q u.size, _, j + 1, rfl, by first | rfl | (simp [hb]; done) | (by_cases h9 : byt s p ≤ 1; (simp [h9]; omega); (simp [h9]; omega)), HJ2.out⟩
                    case measure => show (u.extract Q u.size).size < u.size; rw [ByteArray.size_extract]; have := HUS.out; have := HQ.out; omega
    · have hu : u = ⟨#[]⟩ := HTL.out.nil hlt
      have HNM : Hid (¬ More s (st s j)) := Lib.hid fun h => hlt (by rw [HP.out]; exact h.1)
      have HNP : Hid (¬ (st s j).p < s.size) := Lib.hid (by rw [← HP.out]; exact hlt)
      subst hu
      have HOK := Lib.hid HJ.out.ok
      cases is with
      | false =>
        go_wp2
        go_ret2
        exact ⟨j, _, _, rfl, HNM.out, .bad HNP.out (by rw [← HOK.out]; rfl), HJ.out.mod⟩
      | true =>
        obtain ⟨sv, hrow⟩ := HJ.out.row
        have HROW := Lib.hid hrow
        clear hrow
        go_wp2_with fail
        refine (refGood_any _ (st s j).rs sv _ HROW.out.at).mono ?_; rintro e w5 ⟨rfl, hm5⟩
        obtain ⟨G, hG⟩ : ∃ G, G = goodT (st s j).rs := ⟨_, rfl⟩
        have HGG := Lib.hid hG
        rw [← hG]
        have HM5 := Lib.hid (HJ.out.mod.trans hm5 fun _ f => f.elim)
        have HAT := Lib.hid (HROW.out.at.keep hm5)
        clear hG hm5
        cases G with
        | false =>
          go_wp2
          go_ret2
          exact ⟨j, _, _, rfl, HNM.out, .bad HNP.out (by rw [← HOK.out, ← HGG.out]; rfl), HM5.out⟩
        | true =>
          go_wp2
          go_ret2
          exact ⟨j, _, _, rfl, HNM.out, .good _ sv HNP.out (by rw [← HOK.out, ← HGG.out]; rfl) HAT.out, HM5.out⟩
end Go.Proofs.Ytegjamjognpdkaa
