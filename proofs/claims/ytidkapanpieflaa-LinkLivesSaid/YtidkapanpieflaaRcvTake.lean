/- Take of the receiver of package window. -/
import Derived.Test.YtidkapanpieflaaRcv
namespace Go.Proofs.Ytidkapanpieflaa
open Go.RowKit Go.MapKept
set_option linter.unusedVariables false
set_option linter.unusedSimpArgs false
/-- one body more is told, if the packet that is waited for is there -/
def Rcv.drain : Nat → Rcv → List ByteArray × Rcv
  | 0, r => ([], r)
  | n + 1, r => match Pkt.find r.held r.next with
    | none => ([], r)
    | some x => (x.body :: (Rcv.drain n { r with next := Sr.add r.next 1, held := Pkt.del r.held r.next }).1, (Rcv.drain n { r with next := Sr.add r.next 1, held := Pkt.del r.held r.next }).2)
def Rcv.put (r : Rcv) (p : Pkt) : Rcv := if (Pkt.find r.held p.seq).isSome then r else { r with held := r.held ++ [p] }
def Rcv.take (r : Rcv) (p : Pkt) : List ByteArray × Rcv := if Sr.within p.seq r.next r.wide then (r.put p).drain (r.put p).held.length else ([], r)
theorem Pkt.find_some {l : List Pkt} {k : Int} {x : Pkt} (h : Pkt.find l k = some x) : x ∈ l ∧ x.seq = k := by
  unfold Pkt.find at h
  exact ⟨List.mem_of_find?_eq_some h, by simpa using List.find?_some h⟩
theorem Pkt.find_none {l : List Pkt} {k : Int} (h : Pkt.find l k = none) : ∀ p ∈ l, p.seq ≠ k := by
  unfold Pkt.find at h
  simpa using h
theorem Pkt.del_len {l : List Pkt} {k : Int} {x : Pkt} (h : Pkt.find l k = some x) : (Pkt.del l k).length + 1 = l.length := by
  induction l with
  | nil => simp [Pkt.find] at h
  | cons p r ih =>
    by_cases hp : p.seq = k
    · simp [Pkt.del, hp]
    · have := ih (by simpa [Pkt.find, hp] using h)
      simp [Pkt.del, hp]; omega
theorem Pkt.del_sub (l : List Pkt) (k : Int) : (Pkt.del l k).Sublist l := by
  induction l with
  | nil => simp [Pkt.del]
  | cons p r ih =>
    by_cases hp : p.seq = k
    · simp [Pkt.del, hp]
    · simpa [Pkt.del, hp] using ih
theorem Pkt.del_not (l : List Pkt) (k : Int) (h : (l.map (·.seq)).Nodup) : ∀ p ∈ Pkt.del l k, p.seq ≠ k := by
  induction l with
  | nil => simp [Pkt.del]
  | cons p r ih =>
    simp only [List.map_cons, List.nodup_cons] at h
    by_cases hp : p.seq = k
    · simp only [Pkt.del, hp, if_true]
      intro q hq he
      exact h.1 (by rw [hp, ← he]; exact List.mem_map_of_mem hq)
    · simp only [Pkt.del, hp, if_false]
      intro q hq
      rcases List.mem_cons.1 hq with rfl | hq
      · exact hp
      · exact ih h.2 q hq
theorem Rcv.Ok.step {r : Rcv} (h : r.Ok) : Rcv.Ok { r with next := Sr.add r.next 1, held := Pkt.del r.held r.next } := by
  have hs := Pkt.del_sub r.held r.next
  refine ⟨(Sr.add_bd _ _).1, (Sr.add_bd _ _).2, h.w0, h.w1, h.nd.sublist (hs.map _), fun p hp => ?_⟩
  obtain ⟨a, b, c⟩ := h.inw p (hs.subset hp)
  have := Pkt.del_not _ _ h.nd p hp
  have h0 := h.n0
  have h1 := h.n1
  have hw := h.w1
  refine ⟨a, b, ?_⟩
  show (p.seq - Sr.add r.next 1) % 4294967296 < (r.wide : Int)
  unfold Sr.add
  omega
theorem Rcv.Ok.put {r : Rcv} (h : r.Ok) {p : Pkt} (h0 : 0 ≤ p.seq) (h1 : p.seq < 4294967296) (hw : Sr.within p.seq r.next r.wide = true) : (r.put p).Ok := by
  unfold Rcv.put
  split
  · exact h
  · rename_i hf
    have hf' : Pkt.find r.held p.seq = none := by simpa using hf
    refine ⟨h.n0, h.n1, h.w0, h.w1, ?_, fun q hq => ?_⟩
    · show ((r.held ++ [p]).map (·.seq)).Nodup
      rw [List.map_append, List.nodup_append]
      refine ⟨h.nd, by simp, fun a ha b hb => ?_⟩
      obtain ⟨q, hq, rfl⟩ := List.mem_map.1 ha
      have : b = p.seq := by simpa using hb
      subst this
      exact Pkt.find_none hf' q hq
    · rcases List.mem_append.1 hq with hq | hq
      · exact h.inw q hq
      · have : q = p := by simpa using hq
        subst this
        refine ⟨h0, h1, ?_⟩
        unfold Sr.within at hw
        have := h.w0
        have := h.w1
        have hw' := of_decide_eq_true hw
        show _ < (r.wide : Int)
        split at hw' <;> (try split at hw') <;> omega
theorem Rcv.drain_some {r : Rcv} {x : Pkt} (h : Pkt.find r.held r.next = some x) :
    r.drain r.held.length = (x.body :: (Rcv.drain (Pkt.del r.held r.next).length { r with next := Sr.add r.next 1, held := Pkt.del r.held r.next }).1, (Rcv.drain (Pkt.del r.held r.next).length { r with next := Sr.add r.next 1, held := Pkt.del r.held r.next }).2) := by
  have := Pkt.del_len h
  rw [← this]
  simp [Rcv.drain, h]
theorem Rcv.drain_none {r : Rcv} (h : Pkt.find r.held r.next = none) : r.drain r.held.length = ([], r) := by
  cases r.held.length <;> simp [Rcv.drain, h]
def lenOf : Value → Nat | .slice _ n _ => n | _ => 0
/-- the state at the head of a round -/
structure TakeAt (w wr : World) (p b : Nat) (f : Nat → Prop) (R : Rcv) (v : Value) (o : List ByteArray) (r : Rcv) : Prop where
  ok : r.Ok
  wide : r.wide = R.wide
  blk : wr.heap[p]? = some (.cells #[.int .u32 r.next, .int .i64 r.wide, .map (some b)] 100 (0, 0))
  mp : Mp wr b .u32 (Rcv.map r.held)
  row : Row wr (fun k => w.heap.size ≤ k) 9 1 v o.length (o.map .string)
  mod : Mod f w wr
  eq : R.drain R.held.length = (o ++ (r.drain r.held.length).1, (r.drain r.held.length).2)
  len : o.length + r.held.length = R.held.length
theorem take_end {w wr w' : World} {p b : Nat} {f : Nat → Prop} {r r' : Rcv} {q : Pkt} {v : Value} {o : List ByteArray} (hw : Sr.within q.seq r.next r.wide = true) (hp : f p) (hfb : f b) (hff : ∀ k, f k → k < w.heap.size) (hfd : Pkt.find r'.held r'.next = none) (h : TakeAt w wr p b f (r.put q) v o r') (hm : Mod (fun _ => False) wr w') :
    ∃ u, Ending.returned v = .returned u ∧ Row w' (fun k => w.heap.size ≤ k) 9 1 u (r.take q).1.length ((r.take q).1.map .string) ∧ RcvAt w' p f (r.take q).2 ∧ Mod f w w' := by
  have e : r.take q = (o, r') := by
    unfold Rcv.take
    rw [if_pos hw, h.eq, Rcv.drain_none hfd]
    simp
  rw [e]
  exact ⟨v, rfl, h.row.keep hm fun _ _ f => f, ⟨h.ok, hp, b, hm.keep h.blk fun f => f, hfb, h.mp.keep hm fun f => f⟩, h.mod.trans hm fun _ f => f.elim⟩
theorem take_round {w wr wF w1 : World} {p b : Nat} {f : Nat → Prop} {R r' : Rcv} {x : Pkt} {ao a1 : Option Addr} {co cap1 : Nat} {o : List ByteArray} (hp : f p) (hfb : f b) (hfd : Pkt.find r'.held r'.next = some x) (h : TakeAt w wr p b f R (.slice ao o.length co) o r') (hbw : b < w.heap.size) (hff : ∀ k, f k → k < w.heap.size)
    (hbF : wF.heap[p]? = some (.cells #[.int .u32 r'.next, .int .i64 r'.wide, .map (some b)] 100 (0, 0))) (mF : Mp wF b .u32 (mdel (Rcv.map r'.held) r'.next)) (hmF : Mod (fun x => x = b) wr wF) (rF : Row wF (fun k => w.heap.size ≤ k) 9 1 (.slice ao o.length co) o.length (o.map .string))
    (hr : Row w1 (fun k => w.heap.size ≤ k ∨ ((wF.alloc (.cells #[.string x.body] 9)).drew).heap.size ≤ k) 9 1 (.slice a1 (o.length + 1) cap1) (o.length + 1) (o.map .string ++ (#[Value.string x.body] : Array Value).toList))
    (hm : Mod (fun k => (Value.slice ao o.length co).ownBlock = some k) wF w1) (np : ¬ (Value.slice ao o.length co).ownBlock = some p) :
    TakeAt w (w1.setCell ⟨p, 0, none⟩ (.int .u32 (Sr.add r'.next 1))) p b f R (.slice a1 (o.length + 1) cap1) (o ++ [x.body]) { r' with next := Sr.add r'.next 1, held := Pkt.del r'.held r'.next } := by
  have hb1 := hm.keep hbF np
  have m1 := mF.keep hm (mF.neRow rF)
  rw [mdel_map] at m1
  have hsz := Nat.le_trans h.mod.size hmF.size
  refine ⟨h.ok.step, h.wide, setOf hb1 0 _, m1.setCell _ _ (m1.ne hb1), ?_, ?_, ?_, ?_⟩
  · have := (hr.setFar (p := ⟨p, 0, none⟩) (hr.ne hb1 (by decide)) (.int .u32 (Sr.add r'.next 1))).mono (f' := fun k => w.heap.size ≤ k) fun k hk => hk.elim id fun h => Nat.le_trans hsz (allocLe h)
    simpa using this
  · exact (((h.mod.trans hmF fun y hy => .inl (hy ▸ hfb)).trans hm fun y hy => .inr (rF.2 y hy)).setCell (.inl hp) _)
  · rw [h.eq, Rcv.drain_some hfd]
    simp
  · have := Pkt.del_len hfd
    have := h.len
    simp; omega
set_option maxRecDepth 100000 in
set_option maxHeartbeats 1000000 in
theorem Take_x (p : Nat) (f : Nat → Prop) (r : Rcv) (q : Pkt) (w : World) (h : RcvAt w p f r) (hq0 : 0 ≤ q.seq) (hq1 : q.seq < 4294967296) (hw : Sr.within q.seq r.next r.wide = true) (hff : ∀ k, f k → k < w.heap.size) :
    Calls Try.prog 21 #[.pointer (some ⟨p, 0, none⟩), q.val] w fun e w' => ∃ v, e = .returned v ∧ Row w' (fun k => w.heap.size ≤ k) 9 1 v (r.take q).1.length ((r.take q).1.map .string) ∧ RcvAt w' p f (r.take q).2 ∧ Mod f w w' := by
  obtain ⟨hok, hp, b, hb, hfb, hmp⟩ := h
  have hpw := hff p hp
  have hbw := hff b hfb
  have c0 : w.cell? ⟨p, 0, none⟩ = some (.int .u32 r.next) := cellOf hb 0
  have c1 : w.cell? ⟨p, 1, none⟩ = some (.int .i64 r.wide) := cellOf hb 1
  have c2 : w.cell? ⟨p, 2, none⟩ = some (.map (some b)) := cellOf hb 2
  have w0 := hok.w0
  have w1 := hok.w1
  have HB := Lib.hid hb
  have HMP := Lib.hid hmp
  clear hb hmp
  unfold Pkt.val
  go_enter Try.func21, Try.ntmps21
  go_wp2
  obtain ⟨wA, hwA⟩ : ∃ wA, wA = (w.alloc (.cells #[.int .u32 q.seq, .string q.body] 36)) := ⟨_, rfl⟩
  have hmA : Mod (fun _ => False) w wA := hwA ▸ (Mod.refl _ _).alloc _
  have hqA : wA.heap[w.heap.size]? = some (.cells #[.int .u32 q.seq, .string q.body] 36 (0, 0)) := hwA ▸ allocNew w _
  rw [← hwA]
  clear hwA
  have a0 := hmA.cell (fun f => f) c0
  have a1 := hmA.cell (fun f => f) c1
  have a2 := hmA.cell (fun f => f) c2
  have q0 : wA.cell? ⟨w.heap.size, 0, none⟩ = some (.int .u32 q.seq) := cellOf hqA 0
  have q1 : wA.cell? ⟨w.heap.size, 1, none⟩ = some (.string q.body) := cellOf hqA 1
  clear c0 c1 c2
  have hS1 : wA.drew.cell? ⟨w.heap.size, 0, none⟩ = some (.int .u32 q.seq) ∧ wA.drew.cell? ⟨p, 0, none⟩ = some (.int .u32 r.next) ∧ wA.drew.cell? ⟨p, 1, none⟩ = some (.int .i64 r.wide) := ⟨q0, a0, a1⟩
  refine wp_region_plan [13] [(0, 0), (1, 0), (2, 0), (3, 0), (4, 1), (5, 0), (6, 0), (7, 0), (8, 1), (9, 0), (10, 0), (11, 0), (12, 1), (13, 3), (14, 0), (15, 0)] (fun w' : World => w'.cell? ⟨w.heap.size, 0, none⟩ = some (.int .u32 q.seq) ∧ w'.cell? ⟨p, 0, none⟩ = some (.int .u32 r.next) ∧ w'.cell? ⟨p, 1, none⟩ = some (.int .i64 r.wide)) (by kernel_rfl) (by kernel_rfl) (fun d _ _ _ _ h => by cases d <;> exact h) ?_
  repeat (first | (refine plan_skip rfl rfl ?_; simp only [List.getElem_toArray, List.getElem_cons_succ, List.getElem_cons_zero, Act.put, List.setIfInBounds_toArray, List.set_cons_zero, List.set_cons_succ]) | (refine plan_pass2 rfl rfl ?_; simp only [List.getElem_toArray, List.getElem_cons_succ, List.getElem_cons_zero, Act.put, List.setIfInBounds_toArray, List.set_cons_zero, List.set_cons_succ]) | (refine plan_pass3 rfl rfl ?_; simp only [List.getElem_toArray, List.getElem_cons_succ, List.getElem_cons_zero, Act.put, List.setIfInBounds_toArray, List.set_cons_zero, List.set_cons_succ]) | (refine plan_take (v := ?_) rfl rfl ?_ ?_; rotate_left; (focus (intro w0; go_simp; try with_reducible rfl)); simp only [List.getElem_toArray, List.getElem_cons_succ, List.getElem_cons_zero, Act.put, List.setIfInBounds_toArray, List.set_cons_zero, List.set_cons_succ]) | (refine plan_held (v := ?_) rfl rfl hS1 ?_ ?_; rotate_left; (focus (intro w0 hSw; (try dsimp only at hSw); go_split_ands; go_simp; try with_reducible rfl)); simp only [List.getElem_toArray, List.getElem_cons_succ, List.getElem_cons_zero, Act.put, List.setIfInBounds_toArray, List.set_cons_zero, List.set_cons_succ])  | (refine plan_skip1 rfl rfl hS1 ?_; simp only [List.getElem_toArray, List.getElem_cons_succ, List.getElem_cons_zero, Act.put, List.setIfInBounds_toArray, List.set_cons_zero, List.set_cons_succ]))
  have hbits : (! Sr.within q.seq r.next r.wide) = false := by rw [hw]; rfl
  (refine plan_end rfl rfl rfl fun K hK => ?_; (try simp only [List.getElem_toArray, List.getElem_cons_succ, List.getElem_cons_zero]); go_simp; refine (Within_any _ _ _ (by omega) (by omega) _).mono ?_; rintro e w' ⟨rfl, rfl⟩; refine hK _ _ ?_; clear hK K; try simp only [List.getElem_toArray, List.getElem_cons_succ, List.getElem_cons_zero, Act.put, List.setIfInBounds_toArray, List.set_cons_zero, List.set_cons_succ])
  repeat (first | (refine plan_skip rfl rfl ?_; simp only [List.getElem_toArray, List.getElem_cons_succ, List.getElem_cons_zero, Act.put, List.setIfInBounds_toArray, List.set_cons_zero, List.set_cons_succ]) | (refine plan_pass2 rfl rfl ?_; simp only [List.getElem_toArray, List.getElem_cons_succ, List.getElem_cons_zero, Act.put, List.setIfInBounds_toArray, List.set_cons_zero, List.set_cons_succ]) | (refine plan_pass3 rfl rfl ?_; simp only [List.getElem_toArray, List.getElem_cons_succ, List.getElem_cons_zero, Act.put, List.setIfInBounds_toArray, List.set_cons_zero, List.set_cons_succ]) | (refine plan_take (v := ?_) rfl rfl ?_ ?_; rotate_left; (focus (intro w0; go_simp; try with_reducible rfl)); simp only [List.getElem_toArray, List.getElem_cons_succ, List.getElem_cons_zero, Act.put, List.setIfInBounds_toArray, List.set_cons_zero, List.set_cons_succ]) | fail )
  refine plan_nil ?_
  go_wp2
  clear hS1
  -- the packet is put among those that are held
  obtain ⟨wB, hwB⟩ : ∃ wB, wB = wA.drew := ⟨_, rfl⟩
  rw [← hwB]
  have hmB : Mod (fun _ => False) w wB := hwB ▸ hmA.drew
  have hbB := hmB.keep HB.out (fun f => f)
  have mB := HMP.out.keep hmB (fun f => f)
  have b2 : wB.cell? ⟨p, 2, none⟩ = some (.map (some b)) := cellOf hbB 2
  have q2 : wB.cell? ⟨w.heap.size, 0, none⟩ = some (.int .u32 q.seq) := hwB ▸ q0
  have q3 : wB.cell? ⟨w.heap.size, 1, none⟩ = some (.string q.body) := hwB ▸ q1
  have hS3 : wB.drew.cell? ⟨p, 2, none⟩ = some (.map (some b)) ∧ wB.drew.cell? ⟨w.heap.size, 0, none⟩ = some (.int .u32 q.seq) ∧ Mp wB.drew b .u32 (Rcv.map r.held) := ⟨b2, q2, mB⟩
  clear hwB a0 a1 a2 q0 q1 hqA
  refine wp_region_plan [11] [(0, 0), (1, 0), (2, 0), (3, 1), (4, 0), (5, 1), (6, 1), (7, 0), (8, 0), (9, 0), (10, 2), (11, 3), (12, 0)] (fun w' : World => w'.cell? ⟨p, 2, none⟩ = some (.map (some b)) ∧ w'.cell? ⟨w.heap.size, 0, none⟩ = some (.int .u32 q.seq) ∧ Mp w' b .u32 (Rcv.map r.held)) (by kernel_rfl) (by kernel_rfl) (fun d _ _ _ _ h => by cases d <;> exact h) ?_
  repeat (first | (refine plan_skip rfl rfl ?_; simp only [List.getElem_toArray, List.getElem_cons_succ, List.getElem_cons_zero, Act.put, List.setIfInBounds_toArray, List.set_cons_zero, List.set_cons_succ]) | (refine plan_pass2 rfl rfl ?_; simp only [List.getElem_toArray, List.getElem_cons_succ, List.getElem_cons_zero, Act.put, List.setIfInBounds_toArray, List.set_cons_zero, List.set_cons_succ]) | (refine plan_pass3 rfl rfl ?_; simp only [List.getElem_toArray, List.getElem_cons_succ, List.getElem_cons_zero, Act.put, List.setIfInBounds_toArray, List.set_cons_zero, List.set_cons_succ]) | (refine plan_take (v := ?_) rfl rfl ?_ ?_; rotate_left; (focus (intro w0; go_simp; try with_reducible rfl)); simp only [List.getElem_toArray, List.getElem_cons_succ, List.getElem_cons_zero, Act.put, List.setIfInBounds_toArray, List.set_cons_zero, List.set_cons_succ]) | (refine plan_held (v := ?_) rfl rfl hS3 ?_ ?_; rotate_left; (focus (intro w0 hSw; (try dsimp only at hSw); go_split_ands; go_simp; try with_reducible rfl)); simp only [List.getElem_toArray, List.getElem_cons_succ, List.getElem_cons_zero, Act.put, List.setIfInBounds_toArray, List.set_cons_zero, List.set_cons_succ])  | (refine plan_skip1 rfl rfl hS3 ?_; simp only [List.getElem_toArray, List.getElem_cons_succ, List.getElem_cons_zero, Act.put, List.setIfInBounds_toArray, List.set_cons_zero, List.set_cons_succ]))
  have HBB := Lib.hid hbB
  have MB := Lib.hid mB
  clear hbB mB
  cases hfind : Pkt.find r.held q.seq with
  | none =>
    have hg : mget (Rcv.map r.held) q.seq = none := by rw [mget_map, hfind]; rfl
    have HG := Lib.hid hg
    clear hg
    (refine plan_held (v := .tuple #[.agg #[.int .u32 0, .string ByteArray.empty], .bool false]) rfl rfl hS3 (fun w0 h0 => (exec_lookup_mp (o := ⟨some 33, .lookup 98 (.tmp 30) (.tmp 32) true, _, _, _, _⟩) Try.underlying98 Try.underlying24 Try.zeroPkt rfl rfl rfl h0.2.2).trans (by rw [HG.out]; rfl)) ?_; try simp only [List.getElem_toArray, List.getElem_cons_succ, List.getElem_cons_zero, Act.put, List.setIfInBounds_toArray, List.set_cons_zero, List.set_cons_succ])
    repeat (first | (refine plan_skip rfl rfl ?_; simp only [List.getElem_toArray, List.getElem_cons_succ, List.getElem_cons_zero, Act.put, List.setIfInBounds_toArray, List.set_cons_zero, List.set_cons_succ]) | (refine plan_pass2 rfl rfl ?_; simp only [List.getElem_toArray, List.getElem_cons_succ, List.getElem_cons_zero, Act.put, List.setIfInBounds_toArray, List.set_cons_zero, List.set_cons_succ]) | (refine plan_pass3 rfl rfl ?_; simp only [List.getElem_toArray, List.getElem_cons_succ, List.getElem_cons_zero, Act.put, List.setIfInBounds_toArray, List.set_cons_zero, List.set_cons_succ]) | (refine plan_take (v := ?_) rfl rfl ?_ ?_; rotate_left; (focus (intro w0; go_simp; try with_reducible rfl)); simp only [List.getElem_toArray, List.getElem_cons_succ, List.getElem_cons_zero, Act.put, List.setIfInBounds_toArray, List.set_cons_zero, List.set_cons_succ]) | (refine plan_held (v := ?_) rfl rfl hS3 ?_ ?_; rotate_left; (focus (intro w0 hSw; (try dsimp only at hSw); go_split_ands; go_simp; try with_reducible rfl)); simp only [List.getElem_toArray, List.getElem_cons_succ, List.getElem_cons_zero, Act.put, List.setIfInBounds_toArray, List.set_cons_zero, List.set_cons_succ])  | (refine plan_skip1 rfl rfl hS3 ?_; simp only [List.getElem_toArray, List.getElem_cons_succ, List.getElem_cons_zero, Act.put, List.setIfInBounds_toArray, List.set_cons_zero, List.set_cons_succ]))
    (refine plan_do rfl rfl fun K hK => ?_; (try simp only [List.getElem_toArray, List.getElem_cons_succ, List.getElem_cons_zero]); go_simp; refine hK _ _ ⟨allocCell _ b2, allocCell _ q2, MB.out.alloc _⟩ ?_; clear hK K; try simp only [List.getElem_toArray, List.getElem_cons_succ, List.getElem_cons_zero, Act.put, List.setIfInBounds_toArray, List.set_cons_zero, List.set_cons_succ])
    repeat (first | (refine plan_skip rfl rfl ?_; simp only [List.getElem_toArray, List.getElem_cons_succ, List.getElem_cons_zero, Act.put, List.setIfInBounds_toArray, List.set_cons_zero, List.set_cons_succ]) | (refine plan_pass2 rfl rfl ?_; simp only [List.getElem_toArray, List.getElem_cons_succ, List.getElem_cons_zero, Act.put, List.setIfInBounds_toArray, List.set_cons_zero, List.set_cons_succ]) | (refine plan_pass3 rfl rfl ?_; simp only [List.getElem_toArray, List.getElem_cons_succ, List.getElem_cons_zero, Act.put, List.setIfInBounds_toArray, List.set_cons_zero, List.set_cons_succ]) | (refine plan_take (v := ?_) rfl rfl ?_ ?_; rotate_left; (focus (intro w0; go_simp; try with_reducible rfl)); simp only [List.getElem_toArray, List.getElem_cons_succ, List.getElem_cons_zero, Act.put, List.setIfInBounds_toArray, List.set_cons_zero, List.set_cons_succ]) | fail )
    (refine plan_end rfl rfl rfl fun K hK => ?_; (try simp only [List.getElem_toArray, List.getElem_cons_succ, List.getElem_cons_zero]); go_simp; refine hK _ _ ?_; clear hK K; try simp only [List.getElem_toArray, List.getElem_cons_succ, List.getElem_cons_zero, Act.put, List.setIfInBounds_toArray, List.set_cons_zero, List.set_cons_succ])
    repeat (first | (refine plan_skip rfl rfl ?_; simp only [List.getElem_toArray, List.getElem_cons_succ, List.getElem_cons_zero, Act.put, List.setIfInBounds_toArray, List.set_cons_zero, List.set_cons_succ]) | (refine plan_pass2 rfl rfl ?_; simp only [List.getElem_toArray, List.getElem_cons_succ, List.getElem_cons_zero, Act.put, List.setIfInBounds_toArray, List.set_cons_zero, List.set_cons_succ]) | (refine plan_pass3 rfl rfl ?_; simp only [List.getElem_toArray, List.getElem_cons_succ, List.getElem_cons_zero, Act.put, List.setIfInBounds_toArray, List.set_cons_zero, List.set_cons_succ]) | (refine plan_take (v := ?_) rfl rfl ?_ ?_; rotate_left; (focus (intro w0; go_simp; try with_reducible rfl)); simp only [List.getElem_toArray, List.getElem_cons_succ, List.getElem_cons_zero, Act.put, List.setIfInBounds_toArray, List.set_cons_zero, List.set_cons_succ]) | fail )
    refine plan_nil ?_
    go_wp2
    have hwC : ∃ wC, wC = ((wB.alloc (.cells #[.int .u32 0, .string ByteArray.empty] 36)).drew : World) := ⟨_, rfl⟩
    obtain ⟨wC, hwC⟩ := hwC
    rw [← hwC]
    have hmC : Mod (fun _ => False) w wC := hwC ▸ (hmB.alloc _).drew
    have c2 : wC.cell? ⟨p, 2, none⟩ = some (.map (some b)) := hwC ▸ allocCell _ b2
    have e2 : wC.cell? ⟨w.heap.size, 0, none⟩ = some (.int .u32 q.seq) := hwC ▸ allocCell _ q2
    have e3 : wC.cell? ⟨w.heap.size, 1, none⟩ = some (.string q.body) := hwC ▸ allocCell _ q3
    have hbC := hmC.keep HB.out (fun f => f)
    have MC := Lib.hid (HMP.out.keep hmC (fun f => f))
    have HBC := Lib.hid hbC
    clear hwC b2 q2 q3 hS3 hbC
    have hS5 : wC.drew.cell? ⟨p, 2, none⟩ = some (.map (some b)) ∧ wC.drew.cell? ⟨w.heap.size, 0, none⟩ = some (.int .u32 q.seq) ∧ wC.drew.cell? ⟨w.heap.size, 1, none⟩ = some (.string q.body) := ⟨c2, e2, e3⟩
    refine wp_region_plan [7] [(0, 0), (1, 0), (2, 0), (3, 1), (4, 0), (5, 1), (6, 1), (7, 3)] (fun w' : World => w'.cell? ⟨p, 2, none⟩ = some (.map (some b)) ∧ w'.cell? ⟨w.heap.size, 0, none⟩ = some (.int .u32 q.seq) ∧ w'.cell? ⟨w.heap.size, 1, none⟩ = some (.string q.body)) (by kernel_rfl) (by kernel_rfl) (fun d _ _ _ _ h => by cases d <;> exact h) ?_
    repeat (first | (refine plan_skip rfl rfl ?_; simp only [List.getElem_toArray, List.getElem_cons_succ, List.getElem_cons_zero, Act.put, List.setIfInBounds_toArray, List.set_cons_zero, List.set_cons_succ]) | (refine plan_pass2 rfl rfl ?_; simp only [List.getElem_toArray, List.getElem_cons_succ, List.getElem_cons_zero, Act.put, List.setIfInBounds_toArray, List.set_cons_zero, List.set_cons_succ]) | (refine plan_pass3 rfl rfl ?_; simp only [List.getElem_toArray, List.getElem_cons_succ, List.getElem_cons_zero, Act.put, List.setIfInBounds_toArray, List.set_cons_zero, List.set_cons_succ]) | (refine plan_take (v := ?_) rfl rfl ?_ ?_; rotate_left; (focus (intro w0; go_simp; try with_reducible rfl)); simp only [List.getElem_toArray, List.getElem_cons_succ, List.getElem_cons_zero, Act.put, List.setIfInBounds_toArray, List.set_cons_zero, List.set_cons_succ]) | (refine plan_held (v := ?_) rfl rfl hS5 ?_ ?_; rotate_left; (focus (intro w0 hSw; (try dsimp only at hSw); go_split_ands; go_simp; try with_reducible rfl)); simp only [List.getElem_toArray, List.getElem_cons_succ, List.getElem_cons_zero, Act.put, List.setIfInBounds_toArray, List.set_cons_zero, List.set_cons_succ])  | (refine plan_skip1 rfl rfl hS5 ?_; simp only [List.getElem_toArray, List.getElem_cons_succ, List.getElem_cons_zero, Act.put, List.setIfInBounds_toArray, List.set_cons_zero, List.set_cons_succ]))
    refine plan_end rfl rfl rfl fun K hK => ?_
    refine wp_update_mp (mo := .tmp 41) (ko := .tmp 43) (vo := .tmp 44) (v := q.val) Try.underlying98 Try.underlying24 rfl rfl rfl rfl MC.out fun wD mD hmD => ?_
    refine hK _ _ ?_
    clear hK K
    try simp only [List.getElem_toArray, List.getElem_cons_succ, List.getElem_cons_zero, Act.put, List.setIfInBounds_toArray, List.set_cons_zero, List.set_cons_succ]
    refine plan_nil ?_
    have hX : TakeAt w wD p b f (r.put q) (.slice none 0 0) [] (r.put q) := by
      have e : r.put q = { r with held := r.held ++ [q] } := by unfold Rcv.put; rw [hfind]; rfl
      have hmD' : Mod (fun x => x = b) wC wD := Mod.ofDrew hmD
      refine ⟨hok.put hq0 hq1 hw, rfl, ?_, ?_, Row.nil _ _ _ _, ?_, by simp, by simp⟩
      · rw [e]
        exact hmD'.keep HBC.out fun h => (MC.out.ne HBC.out) h.symm
      · rw [e]
        exact (mput_map r.held q hfind) ▸ mD
      · exact (hmC.mono (G := f) fun _ f => f.elim).trans hmD' fun x hx => .inl (hx ▸ hfb)
    have HX := Lib.hid hX
    clear hX mD hmD c2 e2 e3 hS5 MC HBC hmC hmB HBB MB HG
    go_wp2
    go_loopw [7] (fun v wr => ∃ o r', TakeAt w wr p b f (r.put q) v o r') (fun v _ => 65 - lenOf v)
    case atStart => exact ⟨[], r.put q, HX.out⟩
    case round =>
      obtain ⟨o, r', hT⟩ := hrel
      obtain ⟨ao, co, rfl, hno, hco, hgo⟩ := hT.row.form
      have HT := Lib.hid hT
      have hlen := hT.len
      have hok64 := (hok.put hq0 hq1 hw).len
      have d0 : wr.cell? ⟨p, 0, none⟩ = some (.int .u32 r'.next) := cellOf hT.blk 0
      have d2 : wr.cell? ⟨p, 2, none⟩ = some (.map (some b)) := cellOf hT.blk 2
      have dm := hT.mp
      have hS7 : wr.drew.cell? ⟨p, 2, none⟩ = some (.map (some b)) ∧ wr.drew.cell? ⟨p, 0, none⟩ = some (.int .u32 r'.next) ∧ Mp wr.drew b .u32 (Rcv.map r'.held) := ⟨d2, d0, dm⟩
      have DM := Lib.hid dm
      clear hT dm hgo
      go_wp2
      refine wp_region_plan [13] [(0, 0), (1, 0), (2, 0), (3, 1), (4, 0), (5, 0), (6, 0), (7, 1), (8, 1), (9, 0), (10, 0), (11, 0), (12, 2), (13, 3), (14, 0)] (fun w' : World => w'.cell? ⟨p, 2, none⟩ = some (.map (some b)) ∧ w'.cell? ⟨p, 0, none⟩ = some (.int .u32 r'.next) ∧ Mp w' b .u32 (Rcv.map r'.held)) (by kernel_rfl) (by kernel_rfl) (fun d _ _ _ _ h => by cases d <;> exact h) ?_
      repeat (first | (refine plan_skip rfl rfl ?_; simp only [List.getElem_toArray, List.getElem_cons_succ, List.getElem_cons_zero, Act.put, List.setIfInBounds_toArray, List.set_cons_zero, List.set_cons_succ]) | (refine plan_pass2 rfl rfl ?_; simp only [List.getElem_toArray, List.getElem_cons_succ, List.getElem_cons_zero, Act.put, List.setIfInBounds_toArray, List.set_cons_zero, List.set_cons_succ]) | (refine plan_pass3 rfl rfl ?_; simp only [List.getElem_toArray, List.getElem_cons_succ, List.getElem_cons_zero, Act.put, List.setIfInBounds_toArray, List.set_cons_zero, List.set_cons_succ]) | (refine plan_take (v := ?_) rfl rfl ?_ ?_; rotate_left; (focus (intro w0; go_simp; try with_reducible rfl)); simp only [List.getElem_toArray, List.getElem_cons_succ, List.getElem_cons_zero, Act.put, List.setIfInBounds_toArray, List.set_cons_zero, List.set_cons_succ]) | (refine plan_held (v := ?_) rfl rfl hS7 ?_ ?_; rotate_left; (focus (intro w0 hSw; (try dsimp only at hSw); go_split_ands; go_simp; try with_reducible rfl)); simp only [List.getElem_toArray, List.getElem_cons_succ, List.getElem_cons_zero, Act.put, List.setIfInBounds_toArray, List.set_cons_zero, List.set_cons_succ])  | (refine plan_skip1 rfl rfl hS7 ?_; simp only [List.getElem_toArray, List.getElem_cons_succ, List.getElem_cons_zero, Act.put, List.setIfInBounds_toArray, List.set_cons_zero, List.set_cons_succ]))
      cases hfd : Pkt.find r'.held r'.next with
      | none =>
        have HG2 : Hid (mget (Rcv.map r'.held) r'.next = none) := Lib.hid (by rw [mget_map, hfd]; rfl)
        (refine plan_held (v := .tuple #[.agg #[.int .u32 0, .string ByteArray.empty], .bool false]) rfl rfl hS7 (fun w0 h0 => (exec_lookup_mp (o := ⟨some 54, .lookup 98 (.tmp 49) (.tmp 53) true, _, _, _, _⟩) Try.underlying98 Try.underlying24 Try.zeroPkt rfl rfl rfl h0.2.2).trans (by rw [HG2.out]; rfl)) ?_; try simp only [List.getElem_toArray, List.getElem_cons_succ, List.getElem_cons_zero, Act.put, List.setIfInBounds_toArray, List.set_cons_zero, List.set_cons_succ])
        repeat (first | (refine plan_skip rfl rfl ?_; simp only [List.getElem_toArray, List.getElem_cons_succ, List.getElem_cons_zero, Act.put, List.setIfInBounds_toArray, List.set_cons_zero, List.set_cons_succ]) | (refine plan_pass2 rfl rfl ?_; simp only [List.getElem_toArray, List.getElem_cons_succ, List.getElem_cons_zero, Act.put, List.setIfInBounds_toArray, List.set_cons_zero, List.set_cons_succ]) | (refine plan_pass3 rfl rfl ?_; simp only [List.getElem_toArray, List.getElem_cons_succ, List.getElem_cons_zero, Act.put, List.setIfInBounds_toArray, List.set_cons_zero, List.set_cons_succ]) | (refine plan_take (v := ?_) rfl rfl ?_ ?_; rotate_left; (focus (intro w0; go_simp; try with_reducible rfl)); simp only [List.getElem_toArray, List.getElem_cons_succ, List.getElem_cons_zero, Act.put, List.setIfInBounds_toArray, List.set_cons_zero, List.set_cons_succ]) | (refine plan_held (v := ?_) rfl rfl hS7 ?_ ?_; rotate_left; (focus (intro w0 hSw; (try dsimp only at hSw); go_split_ands; go_simp; try with_reducible rfl)); simp only [List.getElem_toArray, List.getElem_cons_succ, List.getElem_cons_zero, Act.put, List.setIfInBounds_toArray, List.set_cons_zero, List.set_cons_succ])  | (refine plan_skip1 rfl rfl hS7 ?_; simp only [List.getElem_toArray, List.getElem_cons_succ, List.getElem_cons_zero, Act.put, List.setIfInBounds_toArray, List.set_cons_zero, List.set_cons_succ]))
        (refine plan_do rfl rfl fun K hK => ?_; (try simp only [List.getElem_toArray, List.getElem_cons_succ, List.getElem_cons_zero]); go_simp; refine hK _ _ ⟨allocCell _ d2, allocCell _ d0, DM.out.alloc _⟩ ?_; clear hK K; try simp only [List.getElem_toArray, List.getElem_cons_succ, List.getElem_cons_zero, Act.put, List.setIfInBounds_toArray, List.set_cons_zero, List.set_cons_succ])
        repeat (first | (refine plan_skip rfl rfl ?_; simp only [List.getElem_toArray, List.getElem_cons_succ, List.getElem_cons_zero, Act.put, List.setIfInBounds_toArray, List.set_cons_zero, List.set_cons_succ]) | (refine plan_pass2 rfl rfl ?_; simp only [List.getElem_toArray, List.getElem_cons_succ, List.getElem_cons_zero, Act.put, List.setIfInBounds_toArray, List.set_cons_zero, List.set_cons_succ]) | (refine plan_pass3 rfl rfl ?_; simp only [List.getElem_toArray, List.getElem_cons_succ, List.getElem_cons_zero, Act.put, List.setIfInBounds_toArray, List.set_cons_zero, List.set_cons_succ]) | (refine plan_take (v := ?_) rfl rfl ?_ ?_; rotate_left; (focus (intro w0; go_simp; try with_reducible rfl)); simp only [List.getElem_toArray, List.getElem_cons_succ, List.getElem_cons_zero, Act.put, List.setIfInBounds_toArray, List.set_cons_zero, List.set_cons_succ]) | fail )
        (refine plan_end rfl rfl rfl fun K hK => ?_; (try simp only [List.getElem_toArray, List.getElem_cons_succ, List.getElem_cons_zero]); go_simp; refine hK _ _ ?_; clear hK K; try simp only [List.getElem_toArray, List.getElem_cons_succ, List.getElem_cons_zero, Act.put, List.setIfInBounds_toArray, List.set_cons_zero, List.set_cons_succ])
        repeat (first | (refine plan_skip rfl rfl ?_; simp only [List.getElem_toArray, List.getElem_cons_succ, List.getElem_cons_zero, Act.put, List.setIfInBounds_toArray, List.set_cons_zero, List.set_cons_succ]) | (refine plan_pass2 rfl rfl ?_; simp only [List.getElem_toArray, List.getElem_cons_succ, List.getElem_cons_zero, Act.put, List.setIfInBounds_toArray, List.set_cons_zero, List.set_cons_succ]) | (refine plan_pass3 rfl rfl ?_; simp only [List.getElem_toArray, List.getElem_cons_succ, List.getElem_cons_zero, Act.put, List.setIfInBounds_toArray, List.set_cons_zero, List.set_cons_succ]) | (refine plan_take (v := ?_) rfl rfl ?_ ?_; rotate_left; (focus (intro w0; go_simp; try with_reducible rfl)); simp only [List.getElem_toArray, List.getElem_cons_succ, List.getElem_cons_zero, Act.put, List.setIfInBounds_toArray, List.set_cons_zero, List.set_cons_succ]) | fail )
        refine plan_nil ?_
        go_wp2
        go_ret
        exact take_end hw hp hfb hff hfd HT.out (((Mod.refl _ _).alloc _).drew)
      | some x' =>
        obtain ⟨hxm, hxs⟩ := Pkt.find_some hfd
        have hpos : 0 < r'.held.length := List.length_pos_of_mem hxm
        clear hxs hxm
        have HG2 : Hid (mget (Rcv.map r'.held) r'.next = some x'.val) := Lib.hid (by rw [mget_map, hfd]; rfl)
        (refine plan_held (v := .tuple #[.agg #[.int .u32 x'.seq, .string x'.body], .bool true]) rfl rfl hS7 (fun w0 h0 => (exec_lookup_mp (o := ⟨some 54, .lookup 98 (.tmp 49) (.tmp 53) true, _, _, _, _⟩) Try.underlying98 Try.underlying24 Try.zeroPkt rfl rfl rfl h0.2.2).trans (by rw [HG2.out]; rfl)) ?_; try simp only [List.getElem_toArray, List.getElem_cons_succ, List.getElem_cons_zero, Act.put, List.setIfInBounds_toArray, List.set_cons_zero, List.set_cons_succ])
        repeat (first | (refine plan_skip rfl rfl ?_; simp only [List.getElem_toArray, List.getElem_cons_succ, List.getElem_cons_zero, Act.put, List.setIfInBounds_toArray, List.set_cons_zero, List.set_cons_succ]) | (refine plan_pass2 rfl rfl ?_; simp only [List.getElem_toArray, List.getElem_cons_succ, List.getElem_cons_zero, Act.put, List.setIfInBounds_toArray, List.set_cons_zero, List.set_cons_succ]) | (refine plan_pass3 rfl rfl ?_; simp only [List.getElem_toArray, List.getElem_cons_succ, List.getElem_cons_zero, Act.put, List.setIfInBounds_toArray, List.set_cons_zero, List.set_cons_succ]) | (refine plan_take (v := ?_) rfl rfl ?_ ?_; rotate_left; (focus (intro w0; go_simp; try with_reducible rfl)); simp only [List.getElem_toArray, List.getElem_cons_succ, List.getElem_cons_zero, Act.put, List.setIfInBounds_toArray, List.set_cons_zero, List.set_cons_succ]) | (refine plan_held (v := ?_) rfl rfl hS7 ?_ ?_; rotate_left; (focus (intro w0 hSw; (try dsimp only at hSw); go_split_ands; go_simp; try with_reducible rfl)); simp only [List.getElem_toArray, List.getElem_cons_succ, List.getElem_cons_zero, Act.put, List.setIfInBounds_toArray, List.set_cons_zero, List.set_cons_succ])  | (refine plan_skip1 rfl rfl hS7 ?_; simp only [List.getElem_toArray, List.getElem_cons_succ, List.getElem_cons_zero, Act.put, List.setIfInBounds_toArray, List.set_cons_zero, List.set_cons_succ]))
        (refine plan_do rfl rfl fun K hK => ?_; (try simp only [List.getElem_toArray, List.getElem_cons_succ, List.getElem_cons_zero]); go_simp; refine hK _ _ ⟨allocCell _ d2, allocCell _ d0, DM.out.alloc _⟩ ?_; clear hK K; try simp only [List.getElem_toArray, List.getElem_cons_succ, List.getElem_cons_zero, Act.put, List.setIfInBounds_toArray, List.set_cons_zero, List.set_cons_succ])
        repeat (first | (refine plan_skip rfl rfl ?_; simp only [List.getElem_toArray, List.getElem_cons_succ, List.getElem_cons_zero, Act.put, List.setIfInBounds_toArray, List.set_cons_zero, List.set_cons_succ]) | (refine plan_pass2 rfl rfl ?_; simp only [List.getElem_toArray, List.getElem_cons_succ, List.getElem_cons_zero, Act.put, List.setIfInBounds_toArray, List.set_cons_zero, List.set_cons_succ]) | (refine plan_pass3 rfl rfl ?_; simp only [List.getElem_toArray, List.getElem_cons_succ, List.getElem_cons_zero, Act.put, List.setIfInBounds_toArray, List.set_cons_zero, List.set_cons_succ]) | (refine plan_take (v := ?_) rfl rfl ?_ ?_; rotate_left; (focus (intro w0; go_simp; try with_reducible rfl)); simp only [List.getElem_toArray, List.getElem_cons_succ, List.getElem_cons_zero, Act.put, List.setIfInBounds_toArray, List.set_cons_zero, List.set_cons_succ]) | fail )
        (refine plan_end rfl rfl rfl fun K hK => ?_; (try simp only [List.getElem_toArray, List.getElem_cons_succ, List.getElem_cons_zero]); go_simp; refine hK _ _ ?_; clear hK K; try simp only [List.getElem_toArray, List.getElem_cons_succ, List.getElem_cons_zero, Act.put, List.setIfInBounds_toArray, List.set_cons_zero, List.set_cons_succ])
        repeat (first | (refine plan_skip rfl rfl ?_; simp only [List.getElem_toArray, List.getElem_cons_succ, List.getElem_cons_zero, Act.put, List.setIfInBounds_toArray, List.set_cons_zero, List.set_cons_succ]) | (refine plan_pass2 rfl rfl ?_; simp only [List.getElem_toArray, List.getElem_cons_succ, List.getElem_cons_zero, Act.put, List.setIfInBounds_toArray, List.set_cons_zero, List.set_cons_succ]) | (refine plan_pass3 rfl rfl ?_; simp only [List.getElem_toArray, List.getElem_cons_succ, List.getElem_cons_zero, Act.put, List.setIfInBounds_toArray, List.set_cons_zero, List.set_cons_succ]) | (refine plan_take (v := ?_) rfl rfl ?_ ?_; rotate_left; (focus (intro w0; go_simp; try with_reducible rfl)); simp only [List.getElem_toArray, List.getElem_cons_succ, List.getElem_cons_zero, Act.put, List.setIfInBounds_toArray, List.set_cons_zero, List.set_cons_succ]) | fail )
        refine plan_nil ?_
        go_wp2
        obtain ⟨wE, hwE⟩ : ∃ wE, wE = ((wr.alloc (.cells #[.int .u32 x'.seq, .string x'.body] 36)).drew : World) := ⟨_, rfl⟩
        rw [← hwE]
        have hmE : Mod (fun _ => False) wr wE := hwE ▸ ((Mod.refl _ _).alloc _).drew
        have hqE : wE.heap[wr.heap.size]? = some (.cells #[.int .u32 x'.seq, .string x'.body] 36 (0, 0)) := hwE ▸ allocNew wr _
        have hbE := hmE.keep HT.out.blk (fun f => f)
        have mE := HT.out.mp.keep hmE (fun f => f)
        have e0 : wE.cell? ⟨p, 0, none⟩ = some (.int .u32 r'.next) := cellOf hbE 0
        have e2 : wE.cell? ⟨p, 2, none⟩ = some (.map (some b)) := cellOf hbE 2
        have HBE := Lib.hid hbE
        have HQE := Lib.hid hqE
        have ME := Lib.hid mE
        clear hwE d0 d2 hS7 hbE hqE mE
        have hS10 : wE.drew.cell? ⟨p, 2, none⟩ = some (.map (some b)) ∧ wE.drew.cell? ⟨p, 0, none⟩ = some (.int .u32 r'.next) := ⟨e2, e0⟩
        refine wp_region_plan [8] [(0, 0), (1, 0), (2, 0), (3, 1), (4, 0), (5, 0), (6, 0), (7, 1), (8, 3)] (fun w' : World => w'.cell? ⟨p, 2, none⟩ = some (.map (some b)) ∧ w'.cell? ⟨p, 0, none⟩ = some (.int .u32 r'.next)) (by kernel_rfl) (by kernel_rfl) (fun d _ _ _ _ h => by cases d <;> exact h) ?_
        repeat (first | (refine plan_skip rfl rfl ?_; simp only [List.getElem_toArray, List.getElem_cons_succ, List.getElem_cons_zero, Act.put, List.setIfInBounds_toArray, List.set_cons_zero, List.set_cons_succ]) | (refine plan_pass2 rfl rfl ?_; simp only [List.getElem_toArray, List.getElem_cons_succ, List.getElem_cons_zero, Act.put, List.setIfInBounds_toArray, List.set_cons_zero, List.set_cons_succ]) | (refine plan_pass3 rfl rfl ?_; simp only [List.getElem_toArray, List.getElem_cons_succ, List.getElem_cons_zero, Act.put, List.setIfInBounds_toArray, List.set_cons_zero, List.set_cons_succ]) | (refine plan_take (v := ?_) rfl rfl ?_ ?_; rotate_left; (focus (intro w0; go_simp; try with_reducible rfl)); simp only [List.getElem_toArray, List.getElem_cons_succ, List.getElem_cons_zero, Act.put, List.setIfInBounds_toArray, List.set_cons_zero, List.set_cons_succ]) | (refine plan_held (v := ?_) rfl rfl hS10 ?_ ?_; rotate_left; (focus (intro w0 hSw; (try dsimp only at hSw); go_split_ands; go_simp; try with_reducible rfl)); simp only [List.getElem_toArray, List.getElem_cons_succ, List.getElem_cons_zero, Act.put, List.setIfInBounds_toArray, List.set_cons_zero, List.set_cons_succ])  | (refine plan_skip1 rfl rfl hS10 ?_; simp only [List.getElem_toArray, List.getElem_cons_succ, List.getElem_cons_zero, Act.put, List.setIfInBounds_toArray, List.set_cons_zero, List.set_cons_succ]))
        refine plan_end rfl rfl rfl fun K hK => ?_
        refine wp_delete_mp (mo := .tmp 63) (ko := .tmp 67) Try.underlying98 Try.underlying24 rfl rfl rfl ME.out fun wF mF hmF0 => ?_
        refine hK _ _ ?_
        clear hK K
        try simp only [List.getElem_toArray, List.getElem_cons_succ, List.getElem_cons_zero, Act.put, List.setIfInBounds_toArray, List.set_cons_zero, List.set_cons_succ]
        refine plan_nil ?_
        have hmF : Mod (fun x => x = b) wE wF := Mod.ofDrew hmF0
        have nbp : ¬ p = b := fun h => (ME.out.ne HBE.out) h.symm
        have nbq : ¬ wr.heap.size = b := fun h => (ME.out.ne HQE.out) h.symm
        have hbF := hmF.keep HBE.out nbp
        have hqF := hmF.keep HQE.out nbq
        have rowF : Row wF (fun k => w.heap.size ≤ k) 9 1 (.slice ao o.length co) o.length (o.map .string) := (HT.out.row.keep hmE fun _ _ f => f).keep hmF fun k hk hkb => by omega
        have g0 : wF.cell? ⟨p, 0, none⟩ = some (.int .u32 r'.next) := cellOf hbF 0
        have gz : wF.frozen? ⟨p, 0, none⟩ = false := freeOf hbF 0
        have g1 : wF.cell? ⟨wr.heap.size, 1, none⟩ = some (.string x'.body) := cellOf hqF 1
        have HBF := Lib.hid hbF
        have HQF := Lib.hid hqF
        have RF := Lib.hid rowF
        have MF := Lib.hid mF
        have HMF := Lib.hid hmF
        clear hbF hqF rowF mF hmF hmF0 e0 e2 hS10
        go_wp2
        have hS11 : wF.drew.cell? ⟨wr.heap.size, 1, none⟩ = some (.string x'.body) ∧ wF.drew.cell? ⟨p, 0, none⟩ = some (.int .u32 r'.next) := ⟨g1, g0⟩
        refine wp_region_plan [14] [(0, 0), (1, 0), (2, 0), (3, 1), (6, 0), (7, 0), (8, 0), (9, 1), (4, 2), (5, 2), (10, 2), (11, 0), (12, 0), (13, 0), (14, 3)] (fun w' : World => w'.cell? ⟨wr.heap.size, 1, none⟩ = some (.string x'.body) ∧ w'.cell? ⟨p, 0, none⟩ = some (.int .u32 r'.next)) (by kernel_rfl) (by kernel_rfl) (fun d _ _ _ _ h => by cases d <;> exact h) ?_
        repeat (first | (refine plan_skip rfl rfl ?_; simp only [List.getElem_toArray, List.getElem_cons_succ, List.getElem_cons_zero, Act.put, List.setIfInBounds_toArray, List.set_cons_zero, List.set_cons_succ]) | (refine plan_pass2 rfl rfl ?_; simp only [List.getElem_toArray, List.getElem_cons_succ, List.getElem_cons_zero, Act.put, List.setIfInBounds_toArray, List.set_cons_zero, List.set_cons_succ]) | (refine plan_pass3 rfl rfl ?_; simp only [List.getElem_toArray, List.getElem_cons_succ, List.getElem_cons_zero, Act.put, List.setIfInBounds_toArray, List.set_cons_zero, List.set_cons_succ]) | (refine plan_take (v := ?_) rfl rfl ?_ ?_; rotate_left; (focus (intro w0; go_simp; try with_reducible rfl)); simp only [List.getElem_toArray, List.getElem_cons_succ, List.getElem_cons_zero, Act.put, List.setIfInBounds_toArray, List.set_cons_zero, List.set_cons_succ]) | (refine plan_held (v := ?_) rfl rfl hS11 ?_ ?_; rotate_left; (focus (intro w0 hSw; (try dsimp only at hSw); go_split_ands; go_simp; try with_reducible rfl)); simp only [List.getElem_toArray, List.getElem_cons_succ, List.getElem_cons_zero, Act.put, List.setIfInBounds_toArray, List.set_cons_zero, List.set_cons_succ])  | (refine plan_skip1 rfl rfl hS11 ?_; simp only [List.getElem_toArray, List.getElem_cons_succ, List.getElem_cons_zero, Act.put, List.setIfInBounds_toArray, List.set_cons_zero, List.set_cons_succ]))
        (refine plan_do rfl rfl fun K hK => ?_; (try simp only [List.getElem_toArray, List.getElem_cons_succ, List.getElem_cons_zero]); go_simp; refine hK _ _ ⟨allocCell _ g1, allocCell _ g0⟩ ?_; clear hK K; try simp only [List.getElem_toArray, List.getElem_cons_succ, List.getElem_cons_zero, Act.put, List.setIfInBounds_toArray, List.set_cons_zero, List.set_cons_succ])
        (refine plan_do rfl rfl fun K hK => ?_; try simp only [List.getElem_toArray, List.getElem_cons_succ, List.getElem_cons_zero])
        refine wp_append_one Try.elStr (.tmp 69) (.tmp 72) rfl #[.string x'.body] _ _ _ _ (RF.out.alloc _).drew wF.heap.size (allocNew wF _) rfl rfl rfl (by simp [Value.oneCell']) (by omega) (by unfold maxLen; omega) ?_
        intro v1 w1 hr1 hm1
        replace hm1 := Mod.allocDrew hm1
        obtain ⟨a1, cap1, rfl, hn1, hc1, hg1⟩ := hr1.form
        have np := RF.out.ne HBF.out (by decide)
        have nq := RF.out.ne HQF.out (by decide)
        have k1 := hm1.cell nq g1
        have k0 := hm1.cell np g0
        have kz := hm1.free np g0 gz
        refine hK _ _ ⟨k1, k0⟩ ?_
        clear hK K
        try simp only [List.getElem_toArray, List.getElem_cons_succ, List.getElem_cons_zero, Act.put, List.setIfInBounds_toArray, List.set_cons_zero, List.set_cons_succ]
        have HR1 := Lib.hid hr1
        have HM1 := Lib.hid hm1
        clear hr1 hm1 hg1 hS11 g0 g1 gz
        repeat (first | (refine plan_skip rfl rfl ?_; simp only [List.getElem_toArray, List.getElem_cons_succ, List.getElem_cons_zero, Act.put, List.setIfInBounds_toArray, List.set_cons_zero, List.set_cons_succ]) | (refine plan_pass2 rfl rfl ?_; simp only [List.getElem_toArray, List.getElem_cons_succ, List.getElem_cons_zero, Act.put, List.setIfInBounds_toArray, List.set_cons_zero, List.set_cons_succ]) | (refine plan_pass3 rfl rfl ?_; simp only [List.getElem_toArray, List.getElem_cons_succ, List.getElem_cons_zero, Act.put, List.setIfInBounds_toArray, List.set_cons_zero, List.set_cons_succ]) | (refine plan_take (v := ?_) rfl rfl ?_ ?_; rotate_left; (focus (intro w0; go_simp; try with_reducible rfl)); simp only [List.getElem_toArray, List.getElem_cons_succ, List.getElem_cons_zero, Act.put, List.setIfInBounds_toArray, List.set_cons_zero, List.set_cons_succ]) | fail )
        (refine plan_do rfl rfl fun K hK => ?_; (try simp only [List.getElem_toArray, List.getElem_cons_succ, List.getElem_cons_zero]); go_simp; refine (Add_any _ _ (by omega) (by omega) _).mono ?_; rintro e w' ⟨rfl, rfl⟩; refine hK _ _ ⟨k1, k0⟩ ?_; clear hK K; try simp only [List.getElem_toArray, List.getElem_cons_succ, List.getElem_cons_zero, Act.put, List.setIfInBounds_toArray, List.set_cons_zero, List.set_cons_succ])
        repeat (first | (refine plan_skip rfl rfl ?_; simp only [List.getElem_toArray, List.getElem_cons_succ, List.getElem_cons_zero, Act.put, List.setIfInBounds_toArray, List.set_cons_zero, List.set_cons_succ]) | (refine plan_pass2 rfl rfl ?_; simp only [List.getElem_toArray, List.getElem_cons_succ, List.getElem_cons_zero, Act.put, List.setIfInBounds_toArray, List.set_cons_zero, List.set_cons_succ]) | (refine plan_pass3 rfl rfl ?_; simp only [List.getElem_toArray, List.getElem_cons_succ, List.getElem_cons_zero, Act.put, List.setIfInBounds_toArray, List.set_cons_zero, List.set_cons_succ]) | (refine plan_take (v := ?_) rfl rfl ?_ ?_; rotate_left; (focus (intro w0; go_simp; try with_reducible rfl)); simp only [List.getElem_toArray, List.getElem_cons_succ, List.getElem_cons_zero, Act.put, List.setIfInBounds_toArray, List.set_cons_zero, List.set_cons_succ]) | fail )
        (refine plan_end rfl rfl rfl fun K hK => ?_; (try simp only [List.getElem_toArray, List.getElem_cons_succ, List.getElem_cons_zero]); go_simp; refine hK _ _ ?_; clear hK K; try simp only [List.getElem_toArray, List.getElem_cons_succ, List.getElem_cons_zero, Act.put, List.setIfInBounds_toArray, List.set_cons_zero, List.set_cons_succ])
        repeat (first | (refine plan_skip rfl rfl ?_; simp only [List.getElem_toArray, List.getElem_cons_succ, List.getElem_cons_zero, Act.put, List.setIfInBounds_toArray, List.set_cons_zero, List.set_cons_succ]) | (refine plan_pass2 rfl rfl ?_; simp only [List.getElem_toArray, List.getElem_cons_succ, List.getElem_cons_zero, Act.put, List.setIfInBounds_toArray, List.set_cons_zero, List.set_cons_succ]) | (refine plan_pass3 rfl rfl ?_; simp only [List.getElem_toArray, List.getElem_cons_succ, List.getElem_cons_zero, Act.put, List.setIfInBounds_toArray, List.set_cons_zero, List.set_cons_succ]) | (refine plan_take (v := ?_) rfl rfl ?_ ?_; rotate_left; (focus (intro w0; go_simp; try with_reducible rfl)); simp only [List.getElem_toArray, List.getElem_cons_succ, List.getElem_cons_zero, Act.put, List.setIfInBounds_toArray, List.set_cons_zero, List.set_cons_succ]) | fail )
        refine plan_nil ?_
        go_wp2
        go_roundw
        case rel => exact ⟨_, _, take_round hp hfb hfd HT.out hbw hff HBF.out MF.out ((hmE.mono (G := fun x => x = b) fun _ f => f.elim).trans HMF.out fun x hx => .inl hx) RF.out HR1.out HM1.out np⟩
        case measure => simp [lenOf]; omega
  | some x =>
    have hg : mget (Rcv.map r.held) q.seq = some x.val := by rw [mget_map, hfind]; rfl
    have HG := Lib.hid hg
    clear hg
    (refine plan_held (v := .tuple #[x.val, .bool true]) rfl rfl hS3 (fun w0 h0 => (exec_lookup_mp (o := ⟨some 33, .lookup 98 (.tmp 30) (.tmp 32) true, _, _, _, _⟩) Try.underlying98 Try.underlying24 Try.zeroPkt rfl rfl rfl h0.2.2).trans (by rw [HG.out]; rfl)) ?_; try simp only [List.getElem_toArray, List.getElem_cons_succ, List.getElem_cons_zero, Act.put, List.setIfInBounds_toArray, List.set_cons_zero, List.set_cons_succ])
    unfold Pkt.val
    repeat (first | (refine plan_skip rfl rfl ?_; simp only [List.getElem_toArray, List.getElem_cons_succ, List.getElem_cons_zero, Act.put, List.setIfInBounds_toArray, List.set_cons_zero, List.set_cons_succ]) | (refine plan_pass2 rfl rfl ?_; simp only [List.getElem_toArray, List.getElem_cons_succ, List.getElem_cons_zero, Act.put, List.setIfInBounds_toArray, List.set_cons_zero, List.set_cons_succ]) | (refine plan_pass3 rfl rfl ?_; simp only [List.getElem_toArray, List.getElem_cons_succ, List.getElem_cons_zero, Act.put, List.setIfInBounds_toArray, List.set_cons_zero, List.set_cons_succ]) | (refine plan_take (v := ?_) rfl rfl ?_ ?_; rotate_left; (focus (intro w0; go_simp; try with_reducible rfl)); simp only [List.getElem_toArray, List.getElem_cons_succ, List.getElem_cons_zero, Act.put, List.setIfInBounds_toArray, List.set_cons_zero, List.set_cons_succ]) | (refine plan_held (v := ?_) rfl rfl hS3 ?_ ?_; rotate_left; (focus (intro w0 hSw; (try dsimp only at hSw); go_split_ands; go_simp; try with_reducible rfl)); simp only [List.getElem_toArray, List.getElem_cons_succ, List.getElem_cons_zero, Act.put, List.setIfInBounds_toArray, List.set_cons_zero, List.set_cons_succ])  | (refine plan_skip1 rfl rfl hS3 ?_; simp only [List.getElem_toArray, List.getElem_cons_succ, List.getElem_cons_zero, Act.put, List.setIfInBounds_toArray, List.set_cons_zero, List.set_cons_succ]))
    (refine plan_do rfl rfl fun K hK => ?_; (try simp only [List.getElem_toArray, List.getElem_cons_succ, List.getElem_cons_zero]); go_simp; refine hK _ _ ⟨allocCell _ b2, allocCell _ q2, MB.out.alloc _⟩ ?_; clear hK K; try simp only [List.getElem_toArray, List.getElem_cons_succ, List.getElem_cons_zero, Act.put, List.setIfInBounds_toArray, List.set_cons_zero, List.set_cons_succ])
    repeat (first | (refine plan_skip rfl rfl ?_; simp only [List.getElem_toArray, List.getElem_cons_succ, List.getElem_cons_zero, Act.put, List.setIfInBounds_toArray, List.set_cons_zero, List.set_cons_succ]) | (refine plan_pass2 rfl rfl ?_; simp only [List.getElem_toArray, List.getElem_cons_succ, List.getElem_cons_zero, Act.put, List.setIfInBounds_toArray, List.set_cons_zero, List.set_cons_succ]) | (refine plan_pass3 rfl rfl ?_; simp only [List.getElem_toArray, List.getElem_cons_succ, List.getElem_cons_zero, Act.put, List.setIfInBounds_toArray, List.set_cons_zero, List.set_cons_succ]) | (refine plan_take (v := ?_) rfl rfl ?_ ?_; rotate_left; (focus (intro w0; go_simp; try with_reducible rfl)); simp only [List.getElem_toArray, List.getElem_cons_succ, List.getElem_cons_zero, Act.put, List.setIfInBounds_toArray, List.set_cons_zero, List.set_cons_succ]) | fail )
    (refine plan_end rfl rfl rfl fun K hK => ?_; (try simp only [List.getElem_toArray, List.getElem_cons_succ, List.getElem_cons_zero]); go_simp; refine hK _ _ ?_; clear hK K; try simp only [List.getElem_toArray, List.getElem_cons_succ, List.getElem_cons_zero, Act.put, List.setIfInBounds_toArray, List.set_cons_zero, List.set_cons_succ])
    repeat (first | (refine plan_skip rfl rfl ?_; simp only [List.getElem_toArray, List.getElem_cons_succ, List.getElem_cons_zero, Act.put, List.setIfInBounds_toArray, List.set_cons_zero, List.set_cons_succ]) | (refine plan_pass2 rfl rfl ?_; simp only [List.getElem_toArray, List.getElem_cons_succ, List.getElem_cons_zero, Act.put, List.setIfInBounds_toArray, List.set_cons_zero, List.set_cons_succ]) | (refine plan_pass3 rfl rfl ?_; simp only [List.getElem_toArray, List.getElem_cons_succ, List.getElem_cons_zero, Act.put, List.setIfInBounds_toArray, List.set_cons_zero, List.set_cons_succ]) | (refine plan_take (v := ?_) rfl rfl ?_ ?_; rotate_left; (focus (intro w0; go_simp; try with_reducible rfl)); simp only [List.getElem_toArray, List.getElem_cons_succ, List.getElem_cons_zero, Act.put, List.setIfInBounds_toArray, List.set_cons_zero, List.set_cons_succ]) | fail )
    refine plan_nil ?_
    have hwC : ∃ wC, wC = ((wB.alloc (.cells #[.int .u32 x.seq, .string x.body] 36)).drew : World) := ⟨_, rfl⟩
    obtain ⟨wC, hwC⟩ := hwC
    rw [← hwC]
    have hmC : Mod (fun _ => False) w wC := hwC ▸ (hmB.alloc _).drew
    have hX : TakeAt w wC p b f (r.put q) (.slice none 0 0) [] (r.put q) := by
      have e : r.put q = r := by unfold Rcv.put; rw [hfind]; rfl
      refine ⟨hok.put hq0 hq1 hw, rfl, ?_, ?_, Row.nil _ _ _ _, hmC.mono (G := f) fun _ f => f.elim, by simp, by simp⟩
      · rw [e]
        exact hmC.keep HB.out fun f => f
      · rw [e]
        exact HMP.out.keep hmC fun f => f
    have HX := Lib.hid hX
    clear hX hwC b2 q2 q3 hS3 hmC hmB HBB MB HG
    go_wp2
    go_loopw [7] (fun v wr => ∃ o r', TakeAt w wr p b f (r.put q) v o r') (fun v _ => 65 - lenOf v)
    case atStart => exact ⟨[], r.put q, HX.out⟩
    case round =>
      obtain ⟨o, r', hT⟩ := hrel
      obtain ⟨ao, co, rfl, hno, hco, hgo⟩ := hT.row.form
      have HT := Lib.hid hT
      have hlen := hT.len
      have hok64 := (hok.put hq0 hq1 hw).len
      have d0 : wr.cell? ⟨p, 0, none⟩ = some (.int .u32 r'.next) := cellOf hT.blk 0
      have d2 : wr.cell? ⟨p, 2, none⟩ = some (.map (some b)) := cellOf hT.blk 2
      have dm := hT.mp
      have hS7 : wr.drew.cell? ⟨p, 2, none⟩ = some (.map (some b)) ∧ wr.drew.cell? ⟨p, 0, none⟩ = some (.int .u32 r'.next) ∧ Mp wr.drew b .u32 (Rcv.map r'.held) := ⟨d2, d0, dm⟩
      have DM := Lib.hid dm
      clear hT dm hgo
      go_wp2
      refine wp_region_plan [13] [(0, 0), (1, 0), (2, 0), (3, 1), (4, 0), (5, 0), (6, 0), (7, 1), (8, 1), (9, 0), (10, 0), (11, 0), (12, 2), (13, 3), (14, 0)] (fun w' : World => w'.cell? ⟨p, 2, none⟩ = some (.map (some b)) ∧ w'.cell? ⟨p, 0, none⟩ = some (.int .u32 r'.next) ∧ Mp w' b .u32 (Rcv.map r'.held)) (by kernel_rfl) (by kernel_rfl) (fun d _ _ _ _ h => by cases d <;> exact h) ?_
      repeat (first | (refine plan_skip rfl rfl ?_; simp only [List.getElem_toArray, List.getElem_cons_succ, List.getElem_cons_zero, Act.put, List.setIfInBounds_toArray, List.set_cons_zero, List.set_cons_succ]) | (refine plan_pass2 rfl rfl ?_; simp only [List.getElem_toArray, List.getElem_cons_succ, List.getElem_cons_zero, Act.put, List.setIfInBounds_toArray, List.set_cons_zero, List.set_cons_succ]) | (refine plan_pass3 rfl rfl ?_; simp only [List.getElem_toArray, List.getElem_cons_succ, List.getElem_cons_zero, Act.put, List.setIfInBounds_toArray, List.set_cons_zero, List.set_cons_succ]) | (refine plan_take (v := ?_) rfl rfl ?_ ?_; rotate_left; (focus (intro w0; go_simp; try with_reducible rfl)); simp only [List.getElem_toArray, List.getElem_cons_succ, List.getElem_cons_zero, Act.put, List.setIfInBounds_toArray, List.set_cons_zero, List.set_cons_succ]) | (refine plan_held (v := ?_) rfl rfl hS7 ?_ ?_; rotate_left; (focus (intro w0 hSw; (try dsimp only at hSw); go_split_ands; go_simp; try with_reducible rfl)); simp only [List.getElem_toArray, List.getElem_cons_succ, List.getElem_cons_zero, Act.put, List.setIfInBounds_toArray, List.set_cons_zero, List.set_cons_succ])  | (refine plan_skip1 rfl rfl hS7 ?_; simp only [List.getElem_toArray, List.getElem_cons_succ, List.getElem_cons_zero, Act.put, List.setIfInBounds_toArray, List.set_cons_zero, List.set_cons_succ]))
      cases hfd : Pkt.find r'.held r'.next with
      | none =>
        have HG2 : Hid (mget (Rcv.map r'.held) r'.next = none) := Lib.hid (by rw [mget_map, hfd]; rfl)
        (refine plan_held (v := .tuple #[.agg #[.int .u32 0, .string ByteArray.empty], .bool false]) rfl rfl hS7 (fun w0 h0 => (exec_lookup_mp (o := ⟨some 54, .lookup 98 (.tmp 49) (.tmp 53) true, _, _, _, _⟩) Try.underlying98 Try.underlying24 Try.zeroPkt rfl rfl rfl h0.2.2).trans (by rw [HG2.out]; rfl)) ?_; try simp only [List.getElem_toArray, List.getElem_cons_succ, List.getElem_cons_zero, Act.put, List.setIfInBounds_toArray, List.set_cons_zero, List.set_cons_succ])
        repeat (first | (refine plan_skip rfl rfl ?_; simp only [List.getElem_toArray, List.getElem_cons_succ, List.getElem_cons_zero, Act.put, List.setIfInBounds_toArray, List.set_cons_zero, List.set_cons_succ]) | (refine plan_pass2 rfl rfl ?_; simp only [List.getElem_toArray, List.getElem_cons_succ, List.getElem_cons_zero, Act.put, List.setIfInBounds_toArray, List.set_cons_zero, List.set_cons_succ]) | (refine plan_pass3 rfl rfl ?_; simp only [List.getElem_toArray, List.getElem_cons_succ, List.getElem_cons_zero, Act.put, List.setIfInBounds_toArray, List.set_cons_zero, List.set_cons_succ]) | (refine plan_take (v := ?_) rfl rfl ?_ ?_; rotate_left; (focus (intro w0; go_simp; try with_reducible rfl)); simp only [List.getElem_toArray, List.getElem_cons_succ, List.getElem_cons_zero, Act.put, List.setIfInBounds_toArray, List.set_cons_zero, List.set_cons_succ]) | (refine plan_held (v := ?_) rfl rfl hS7 ?_ ?_; rotate_left; (focus (intro w0 hSw; (try dsimp only at hSw); go_split_ands; go_simp; try with_reducible rfl)); simp only [List.getElem_toArray, List.getElem_cons_succ, List.getElem_cons_zero, Act.put, List.setIfInBounds_toArray, List.set_cons_zero, List.set_cons_succ])  | (refine plan_skip1 rfl rfl hS7 ?_; simp only [List.getElem_toArray, List.getElem_cons_succ, List.getElem_cons_zero, Act.put, List.setIfInBounds_toArray, List.set_cons_zero, List.set_cons_succ]))
        (refine plan_do rfl rfl fun K hK => ?_; (try simp only [List.getElem_toArray, List.getElem_cons_succ, List.getElem_cons_zero]); go_simp; refine hK _ _ ⟨allocCell _ d2, allocCell _ d0, DM.out.alloc _⟩ ?_; clear hK K; try simp only [List.getElem_toArray, List.getElem_cons_succ, List.getElem_cons_zero, Act.put, List.setIfInBounds_toArray, List.set_cons_zero, List.set_cons_succ])
        repeat (first | (refine plan_skip rfl rfl ?_; simp only [List.getElem_toArray, List.getElem_cons_succ, List.getElem_cons_zero, Act.put, List.setIfInBounds_toArray, List.set_cons_zero, List.set_cons_succ]) | (refine plan_pass2 rfl rfl ?_; simp only [List.getElem_toArray, List.getElem_cons_succ, List.getElem_cons_zero, Act.put, List.setIfInBounds_toArray, List.set_cons_zero, List.set_cons_succ]) | (refine plan_pass3 rfl rfl ?_; simp only [List.getElem_toArray, List.getElem_cons_succ, List.getElem_cons_zero, Act.put, List.setIfInBounds_toArray, List.set_cons_zero, List.set_cons_succ]) | (refine plan_take (v := ?_) rfl rfl ?_ ?_; rotate_left; (focus (intro w0; go_simp; try with_reducible rfl)); simp only [List.getElem_toArray, List.getElem_cons_succ, List.getElem_cons_zero, Act.put, List.setIfInBounds_toArray, List.set_cons_zero, List.set_cons_succ]) | fail )
        (refine plan_end rfl rfl rfl fun K hK => ?_; (try simp only [List.getElem_toArray, List.getElem_cons_succ, List.getElem_cons_zero]); go_simp; refine hK _ _ ?_; clear hK K; try simp only [List.getElem_toArray, List.getElem_cons_succ, List.getElem_cons_zero, Act.put, List.setIfInBounds_toArray, List.set_cons_zero, List.set_cons_succ])
        repeat (first | (refine plan_skip rfl rfl ?_; simp only [List.getElem_toArray, List.getElem_cons_succ, List.getElem_cons_zero, Act.put, List.setIfInBounds_toArray, List.set_cons_zero, List.set_cons_succ]) | (refine plan_pass2 rfl rfl ?_; simp only [List.getElem_toArray, List.getElem_cons_succ, List.getElem_cons_zero, Act.put, List.setIfInBounds_toArray, List.set_cons_zero, List.set_cons_succ]) | (refine plan_pass3 rfl rfl ?_; simp only [List.getElem_toArray, List.getElem_cons_succ, List.getElem_cons_zero, Act.put, List.setIfInBounds_toArray, List.set_cons_zero, List.set_cons_succ]) | (refine plan_take (v := ?_) rfl rfl ?_ ?_; rotate_left; (focus (intro w0; go_simp; try with_reducible rfl)); simp only [List.getElem_toArray, List.getElem_cons_succ, List.getElem_cons_zero, Act.put, List.setIfInBounds_toArray, List.set_cons_zero, List.set_cons_succ]) | fail )
        refine plan_nil ?_
        go_wp2
        go_ret
        exact take_end hw hp hfb hff hfd HT.out (((Mod.refl _ _).alloc _).drew)
      | some x' =>
        obtain ⟨hxm, hxs⟩ := Pkt.find_some hfd
        have hpos : 0 < r'.held.length := List.length_pos_of_mem hxm
        clear hxs hxm
        have HG2 : Hid (mget (Rcv.map r'.held) r'.next = some x'.val) := Lib.hid (by rw [mget_map, hfd]; rfl)
        (refine plan_held (v := .tuple #[.agg #[.int .u32 x'.seq, .string x'.body], .bool true]) rfl rfl hS7 (fun w0 h0 => (exec_lookup_mp (o := ⟨some 54, .lookup 98 (.tmp 49) (.tmp 53) true, _, _, _, _⟩) Try.underlying98 Try.underlying24 Try.zeroPkt rfl rfl rfl h0.2.2).trans (by rw [HG2.out]; rfl)) ?_; try simp only [List.getElem_toArray, List.getElem_cons_succ, List.getElem_cons_zero, Act.put, List.setIfInBounds_toArray, List.set_cons_zero, List.set_cons_succ])
        repeat (first | (refine plan_skip rfl rfl ?_; simp only [List.getElem_toArray, List.getElem_cons_succ, List.getElem_cons_zero, Act.put, List.setIfInBounds_toArray, List.set_cons_zero, List.set_cons_succ]) | (refine plan_pass2 rfl rfl ?_; simp only [List.getElem_toArray, List.getElem_cons_succ, List.getElem_cons_zero, Act.put, List.setIfInBounds_toArray, List.set_cons_zero, List.set_cons_succ]) | (refine plan_pass3 rfl rfl ?_; simp only [List.getElem_toArray, List.getElem_cons_succ, List.getElem_cons_zero, Act.put, List.setIfInBounds_toArray, List.set_cons_zero, List.set_cons_succ]) | (refine plan_take (v := ?_) rfl rfl ?_ ?_; rotate_left; (focus (intro w0; go_simp; try with_reducible rfl)); simp only [List.getElem_toArray, List.getElem_cons_succ, List.getElem_cons_zero, Act.put, List.setIfInBounds_toArray, List.set_cons_zero, List.set_cons_succ]) | (refine plan_held (v := ?_) rfl rfl hS7 ?_ ?_; rotate_left; (focus (intro w0 hSw; (try dsimp only at hSw); go_split_ands; go_simp; try with_reducible rfl)); simp only [List.getElem_toArray, List.getElem_cons_succ, List.getElem_cons_zero, Act.put, List.setIfInBounds_toArray, List.set_cons_zero, List.set_cons_succ])  | (refine plan_skip1 rfl rfl hS7 ?_; simp only [List.getElem_toArray, List.getElem_cons_succ, List.getElem_cons_zero, Act.put, List.setIfInBounds_toArray, List.set_cons_zero, List.set_cons_succ]))
        (refine plan_do rfl rfl fun K hK => ?_; (try simp only [List.getElem_toArray, List.getElem_cons_succ, List.getElem_cons_zero]); go_simp; refine hK _ _ ⟨allocCell _ d2, allocCell _ d0, DM.out.alloc _⟩ ?_; clear hK K; try simp only [List.getElem_toArray, List.getElem_cons_succ, List.getElem_cons_zero, Act.put, List.setIfInBounds_toArray, List.set_cons_zero, List.set_cons_succ])
        repeat (first | (refine plan_skip rfl rfl ?_; simp only [List.getElem_toArray, List.getElem_cons_succ, List.getElem_cons_zero, Act.put, List.setIfInBounds_toArray, List.set_cons_zero, List.set_cons_succ]) | (refine plan_pass2 rfl rfl ?_; simp only [List.getElem_toArray, List.getElem_cons_succ, List.getElem_cons_zero, Act.put, List.setIfInBounds_toArray, List.set_cons_zero, List.set_cons_succ]) | (refine plan_pass3 rfl rfl ?_; simp only [List.getElem_toArray, List.getElem_cons_succ, List.getElem_cons_zero, Act.put, List.setIfInBounds_toArray, List.set_cons_zero, List.set_cons_succ]) | (refine plan_take (v := ?_) rfl rfl ?_ ?_; rotate_left; (focus (intro w0; go_simp; try with_reducible rfl)); simp only [List.getElem_toArray, List.getElem_cons_succ, List.getElem_cons_zero, Act.put, List.setIfInBounds_toArray, List.set_cons_zero, List.set_cons_succ]) | fail )
        (refine plan_end rfl rfl rfl fun K hK => ?_; (try simp only [List.getElem_toArray, List.getElem_cons_succ, List.getElem_cons_zero]); go_simp; refine hK _ _ ?_; clear hK K; try simp only [List.getElem_toArray, List.getElem_cons_succ, List.getElem_cons_zero, Act.put, List.setIfInBounds_toArray, List.set_cons_zero, List.set_cons_succ])
        repeat (first | (refine plan_skip rfl rfl ?_; simp only [List.getElem_toArray, List.getElem_cons_succ, List.getElem_cons_zero, Act.put, List.setIfInBounds_toArray, List.set_cons_zero, List.set_cons_succ]) | (refine plan_pass2 rfl rfl ?_; simp only [List.getElem_toArray, List.getElem_cons_succ, List.getElem_cons_zero, Act.put, List.setIfInBounds_toArray, List.set_cons_zero, List.set_cons_succ]) | (refine plan_pass3 rfl rfl ?_; simp only [List.getElem_toArray, List.getElem_cons_succ, List.getElem_cons_zero, Act.put, List.setIfInBounds_toArray, List.set_cons_zero, List.set_cons_succ]) | (refine plan_take (v := ?_) rfl rfl ?_ ?_; rotate_left; (focus (intro w0; go_simp; try with_reducible rfl)); simp only [List.getElem_toArray, List.getElem_cons_succ, List.getElem_cons_zero, Act.put, List.setIfInBounds_toArray, List.set_cons_zero, List.set_cons_succ]) | fail )
        refine plan_nil ?_
        go_wp2
        obtain ⟨wE, hwE⟩ : ∃ wE, wE = ((wr.alloc (.cells #[.int .u32 x'.seq, .string x'.body] 36)).drew : World) := ⟨_, rfl⟩
        rw [← hwE]
        have hmE : Mod (fun _ => False) wr wE := hwE ▸ ((Mod.refl _ _).alloc _).drew
        have hqE : wE.heap[wr.heap.size]? = some (.cells #[.int .u32 x'.seq, .string x'.body] 36 (0, 0)) := hwE ▸ allocNew wr _
        have hbE := hmE.keep HT.out.blk (fun f => f)
        have mE := HT.out.mp.keep hmE (fun f => f)
        have e0 : wE.cell? ⟨p, 0, none⟩ = some (.int .u32 r'.next) := cellOf hbE 0
        have e2 : wE.cell? ⟨p, 2, none⟩ = some (.map (some b)) := cellOf hbE 2
        have HBE := Lib.hid hbE
        have HQE := Lib.hid hqE
        have ME := Lib.hid mE
        clear hwE d0 d2 hS7 hbE hqE mE
        have hS10 : wE.drew.cell? ⟨p, 2, none⟩ = some (.map (some b)) ∧ wE.drew.cell? ⟨p, 0, none⟩ = some (.int .u32 r'.next) := ⟨e2, e0⟩
        refine wp_region_plan [8] [(0, 0), (1, 0), (2, 0), (3, 1), (4, 0), (5, 0), (6, 0), (7, 1), (8, 3)] (fun w' : World => w'.cell? ⟨p, 2, none⟩ = some (.map (some b)) ∧ w'.cell? ⟨p, 0, none⟩ = some (.int .u32 r'.next)) (by kernel_rfl) (by kernel_rfl) (fun d _ _ _ _ h => by cases d <;> exact h) ?_
        repeat (first | (refine plan_skip rfl rfl ?_; simp only [List.getElem_toArray, List.getElem_cons_succ, List.getElem_cons_zero, Act.put, List.setIfInBounds_toArray, List.set_cons_zero, List.set_cons_succ]) | (refine plan_pass2 rfl rfl ?_; simp only [List.getElem_toArray, List.getElem_cons_succ, List.getElem_cons_zero, Act.put, List.setIfInBounds_toArray, List.set_cons_zero, List.set_cons_succ]) | (refine plan_pass3 rfl rfl ?_; simp only [List.getElem_toArray, List.getElem_cons_succ, List.getElem_cons_zero, Act.put, List.setIfInBounds_toArray, List.set_cons_zero, List.set_cons_succ]) | (refine plan_take (v := ?_) rfl rfl ?_ ?_; rotate_left; (focus (intro w0; go_simp; try with_reducible rfl)); simp only [List.getElem_toArray, List.getElem_cons_succ, List.getElem_cons_zero, Act.put, List.setIfInBounds_toArray, List.set_cons_zero, List.set_cons_succ]) | (refine plan_held (v := ?_) rfl rfl hS10 ?_ ?_; rotate_left; (focus (intro w0 hSw; (try dsimp only at hSw); go_split_ands; go_simp; try with_reducible rfl)); simp only [List.getElem_toArray, List.getElem_cons_succ, List.getElem_cons_zero, Act.put, List.setIfInBounds_toArray, List.set_cons_zero, List.set_cons_succ])  | (refine plan_skip1 rfl rfl hS10 ?_; simp only [List.getElem_toArray, List.getElem_cons_succ, List.getElem_cons_zero, Act.put, List.setIfInBounds_toArray, List.set_cons_zero, List.set_cons_succ]))
        refine plan_end rfl rfl rfl fun K hK => ?_
        refine wp_delete_mp (mo := .tmp 63) (ko := .tmp 67) Try.underlying98 Try.underlying24 rfl rfl rfl ME.out fun wF mF hmF0 => ?_
        refine hK _ _ ?_
        clear hK K
        try simp only [List.getElem_toArray, List.getElem_cons_succ, List.getElem_cons_zero, Act.put, List.setIfInBounds_toArray, List.set_cons_zero, List.set_cons_succ]
        refine plan_nil ?_
        have hmF : Mod (fun x => x = b) wE wF := Mod.ofDrew hmF0
        have nbp : ¬ p = b := fun h => (ME.out.ne HBE.out) h.symm
        have nbq : ¬ wr.heap.size = b := fun h => (ME.out.ne HQE.out) h.symm
        have hbF := hmF.keep HBE.out nbp
        have hqF := hmF.keep HQE.out nbq
        have rowF : Row wF (fun k => w.heap.size ≤ k) 9 1 (.slice ao o.length co) o.length (o.map .string) := (HT.out.row.keep hmE fun _ _ f => f).keep hmF fun k hk hkb => by omega
        have g0 : wF.cell? ⟨p, 0, none⟩ = some (.int .u32 r'.next) := cellOf hbF 0
        have gz : wF.frozen? ⟨p, 0, none⟩ = false := freeOf hbF 0
        have g1 : wF.cell? ⟨wr.heap.size, 1, none⟩ = some (.string x'.body) := cellOf hqF 1
        have HBF := Lib.hid hbF
        have HQF := Lib.hid hqF
        have RF := Lib.hid rowF
        have MF := Lib.hid mF
        have HMF := Lib.hid hmF
        clear hbF hqF rowF mF hmF hmF0 e0 e2 hS10
        go_wp2
        have hS11 : wF.drew.cell? ⟨wr.heap.size, 1, none⟩ = some (.string x'.body) ∧ wF.drew.cell? ⟨p, 0, none⟩ = some (.int .u32 r'.next) := ⟨g1, g0⟩
        refine wp_region_plan [14] [(0, 0), (1, 0), (2, 0), (3, 1), (6, 0), (7, 0), (8, 0), (9, 1), (4, 2), (5, 2), (10, 2), (11, 0), (12, 0), (13, 0), (14, 3)] (fun w' : World => w'.cell? ⟨wr.heap.size, 1, none⟩ = some (.string x'.body) ∧ w'.cell? ⟨p, 0, none⟩ = some (.int .u32 r'.next)) (by kernel_rfl) (by kernel_rfl) (fun d _ _ _ _ h => by cases d <;> exact h) ?_
        repeat (first | (refine plan_skip rfl rfl ?_; simp only [List.getElem_toArray, List.getElem_cons_succ, List.getElem_cons_zero, Act.put, List.setIfInBounds_toArray, List.set_cons_zero, List.set_cons_succ]) | (refine plan_pass2 rfl rfl ?_; simp only [List.getElem_toArray, List.getElem_cons_succ, List.getElem_cons_zero, Act.put, List.setIfInBounds_toArray, List.set_cons_zero, List.set_cons_succ]) | (refine plan_pass3 rfl rfl ?_; simp only [List.getElem_toArray, List.getElem_cons_succ, List.getElem_cons_zero, Act.put, List.setIfInBounds_toArray, List.set_cons_zero, List.set_cons_succ]) | (refine plan_take (v := ?_) rfl rfl ?_ ?_; rotate_left; (focus (intro w0; go_simp; try with_reducible rfl)); simp only [List.getElem_toArray, List.getElem_cons_succ, List.getElem_cons_zero, Act.put, List.setIfInBounds_toArray, List.set_cons_zero, List.set_cons_succ]) | (refine plan_held (v := ?_) rfl rfl hS11 ?_ ?_; rotate_left; (focus (intro w0 hSw; (try dsimp only at hSw); go_split_ands; go_simp; try with_reducible rfl)); simp only [List.getElem_toArray, List.getElem_cons_succ, List.getElem_cons_zero, Act.put, List.setIfInBounds_toArray, List.set_cons_zero, List.set_cons_succ])  | (refine plan_skip1 rfl rfl hS11 ?_; simp only [List.getElem_toArray, List.getElem_cons_succ, List.getElem_cons_zero, Act.put, List.setIfInBounds_toArray, List.set_cons_zero, List.set_cons_succ]))
        (refine plan_do rfl rfl fun K hK => ?_; (try simp only [List.getElem_toArray, List.getElem_cons_succ, List.getElem_cons_zero]); go_simp; refine hK _ _ ⟨allocCell _ g1, allocCell _ g0⟩ ?_; clear hK K; try simp only [List.getElem_toArray, List.getElem_cons_succ, List.getElem_cons_zero, Act.put, List.setIfInBounds_toArray, List.set_cons_zero, List.set_cons_succ])
        (refine plan_do rfl rfl fun K hK => ?_; try simp only [List.getElem_toArray, List.getElem_cons_succ, List.getElem_cons_zero])
        refine wp_append_one Try.elStr (.tmp 69) (.tmp 72) rfl #[.string x'.body] _ _ _ _ (RF.out.alloc _).drew wF.heap.size (allocNew wF _) rfl rfl rfl (by simp [Value.oneCell']) (by omega) (by unfold maxLen; omega) ?_
        intro v1 w1 hr1 hm1
        replace hm1 := Mod.allocDrew hm1
        obtain ⟨a1, cap1, rfl, hn1, hc1, hg1⟩ := hr1.form
        have np := RF.out.ne HBF.out (by decide)
        have nq := RF.out.ne HQF.out (by decide)
        have k1 := hm1.cell nq g1
        have k0 := hm1.cell np g0
        have kz := hm1.free np g0 gz
        refine hK _ _ ⟨k1, k0⟩ ?_
        clear hK K
        try simp only [List.getElem_toArray, List.getElem_cons_succ, List.getElem_cons_zero, Act.put, List.setIfInBounds_toArray, List.set_cons_zero, List.set_cons_succ]
        have HR1 := Lib.hid hr1
        have HM1 := Lib.hid hm1
        clear hr1 hm1 hg1 hS11 g0 g1 gz
        repeat (first | (refine plan_skip rfl rfl ?_; simp only [List.getElem_toArray, List.getElem_cons_succ, List.getElem_cons_zero, Act.put, List.setIfInBounds_toArray, List.set_cons_zero, List.set_cons_succ]) | (refine plan_pass2 rfl rfl ?_; simp only [List.getElem_toArray, List.getElem_cons_succ, List.getElem_cons_zero, Act.put, List.setIfInBounds_toArray, List.set_cons_zero, List.set_cons_succ]) | (refine plan_pass3 rfl rfl ?_; simp only [List.getElem_toArray, List.getElem_cons_succ, List.getElem_cons_zero, Act.put, List.setIfInBounds_toArray, List.set_cons_zero, List.set_cons_succ]) | (refine plan_take (v := ?_) rfl rfl ?_ ?_; rotate_left; (focus (intro w0; go_simp; try with_reducible rfl)); simp only [List.getElem_toArray, List.getElem_cons_succ, List.getElem_cons_zero, Act.put, List.setIfInBounds_toArray, List.set_cons_zero, List.set_cons_succ]) | fail )
        (refine plan_do rfl rfl fun K hK => ?_; (try simp only [List.getElem_toArray, List.getElem_cons_succ, List.getElem_cons_zero]); go_simp; refine (Add_any _ _ (by omega) (by omega) _).mono ?_; rintro e w' ⟨rfl, rfl⟩; refine hK _ _ ⟨k1, k0⟩ ?_; clear hK K; try simp only [List.getElem_toArray, List.getElem_cons_succ, List.getElem_cons_zero, Act.put, List.setIfInBounds_toArray, List.set_cons_zero, List.set_cons_succ])
        repeat (first | (refine plan_skip rfl rfl ?_; simp only [List.getElem_toArray, List.getElem_cons_succ, List.getElem_cons_zero, Act.put, List.setIfInBounds_toArray, List.set_cons_zero, List.set_cons_succ]) | (refine plan_pass2 rfl rfl ?_; simp only [List.getElem_toArray, List.getElem_cons_succ, List.getElem_cons_zero, Act.put, List.setIfInBounds_toArray, List.set_cons_zero, List.set_cons_succ]) | (refine plan_pass3 rfl rfl ?_; simp only [List.getElem_toArray, List.getElem_cons_succ, List.getElem_cons_zero, Act.put, List.setIfInBounds_toArray, List.set_cons_zero, List.set_cons_succ]) | (refine plan_take (v := ?_) rfl rfl ?_ ?_; rotate_left; (focus (intro w0; go_simp; try with_reducible rfl)); simp only [List.getElem_toArray, List.getElem_cons_succ, List.getElem_cons_zero, Act.put, List.setIfInBounds_toArray, List.set_cons_zero, List.set_cons_succ]) | fail )
        (refine plan_end rfl rfl rfl fun K hK => ?_; (try simp only [List.getElem_toArray, List.getElem_cons_succ, List.getElem_cons_zero]); go_simp; refine hK _ _ ?_; clear hK K; try simp only [List.getElem_toArray, List.getElem_cons_succ, List.getElem_cons_zero, Act.put, List.setIfInBounds_toArray, List.set_cons_zero, List.set_cons_succ])
        repeat (first | (refine plan_skip rfl rfl ?_; simp only [List.getElem_toArray, List.getElem_cons_succ, List.getElem_cons_zero, Act.put, List.setIfInBounds_toArray, List.set_cons_zero, List.set_cons_succ]) | (refine plan_pass2 rfl rfl ?_; simp only [List.getElem_toArray, List.getElem_cons_succ, List.getElem_cons_zero, Act.put, List.setIfInBounds_toArray, List.set_cons_zero, List.set_cons_succ]) | (refine plan_pass3 rfl rfl ?_; simp only [List.getElem_toArray, List.getElem_cons_succ, List.getElem_cons_zero, Act.put, List.setIfInBounds_toArray, List.set_cons_zero, List.set_cons_succ]) | (refine plan_take (v := ?_) rfl rfl ?_ ?_; rotate_left; (focus (intro w0; go_simp; try with_reducible rfl)); simp only [List.getElem_toArray, List.getElem_cons_succ, List.getElem_cons_zero, Act.put, List.setIfInBounds_toArray, List.set_cons_zero, List.set_cons_succ]) | fail )
        refine plan_nil ?_
        go_wp2
        go_roundw
        case rel => exact ⟨_, _, take_round hp hfb hfd HT.out hbw hff HBF.out MF.out ((hmE.mono (G := fun x => x = b) fun _ f => f.elim).trans HMF.out fun x hx => .inl hx) RF.out HR1.out HM1.out np⟩
        case measure => simp [lenOf]; omega
set_option maxRecDepth 100000 in
theorem Take_no (p : Nat) (f : Nat → Prop) (r : Rcv) (q : Pkt) (w : World) (h : RcvAt w p f r) (hw : Sr.within q.seq r.next r.wide = false) :
    Calls Try.prog 21 #[.pointer (some ⟨p, 0, none⟩), q.val] w fun e w' => e = .returned (.slice none 0 0) ∧ Mod (fun _ => False) w w' := by
  obtain ⟨hok, hp, b, hb, hfb, hmp⟩ := h
  have c0 : w.cell? ⟨p, 0, none⟩ = some (.int .u32 r.next) := cellOf hb 0
  have c1 : w.cell? ⟨p, 1, none⟩ = some (.int .i64 r.wide) := cellOf hb 1
  have w0 := hok.w0
  have w1 := hok.w1
  clear hb hmp
  unfold Pkt.val
  go_enter Try.func21, Try.ntmps21
  go_wp2
  obtain ⟨wA, hwA⟩ : ∃ wA, wA = (w.alloc (.cells #[.int .u32 q.seq, .string q.body] 36)) := ⟨_, rfl⟩
  have hmA : Mod (fun _ => False) w wA := hwA ▸ (Mod.refl _ _).alloc _
  have q0 : wA.cell? ⟨w.heap.size, 0, none⟩ = some (.int .u32 q.seq) := cellOf (hwA ▸ allocNew w _) 0
  rw [← hwA]
  clear hwA
  have a0 := hmA.cell (fun f => f) c0
  have a1 := hmA.cell (fun f => f) c1
  clear c0 c1
  have hS1 : wA.drew.cell? ⟨w.heap.size, 0, none⟩ = some (.int .u32 q.seq) ∧ wA.drew.cell? ⟨p, 0, none⟩ = some (.int .u32 r.next) ∧ wA.drew.cell? ⟨p, 1, none⟩ = some (.int .i64 r.wide) := ⟨q0, a0, a1⟩
  refine wp_region_plan [13] [(0, 0), (1, 0), (2, 0), (3, 0), (4, 1), (5, 0), (6, 0), (7, 0), (8, 1), (9, 0), (10, 0), (11, 0), (12, 1), (13, 3), (14, 0), (15, 0)] (fun w' : World => w'.cell? ⟨w.heap.size, 0, none⟩ = some (.int .u32 q.seq) ∧ w'.cell? ⟨p, 0, none⟩ = some (.int .u32 r.next) ∧ w'.cell? ⟨p, 1, none⟩ = some (.int .i64 r.wide)) (by kernel_rfl) (by kernel_rfl) (fun d _ _ _ _ h => by cases d <;> exact h) ?_
  repeat (first | (refine plan_skip rfl rfl ?_; simp only [List.getElem_toArray, List.getElem_cons_succ, List.getElem_cons_zero, Act.put, List.setIfInBounds_toArray, List.set_cons_zero, List.set_cons_succ]) | (refine plan_pass2 rfl rfl ?_; simp only [List.getElem_toArray, List.getElem_cons_succ, List.getElem_cons_zero, Act.put, List.setIfInBounds_toArray, List.set_cons_zero, List.set_cons_succ]) | (refine plan_pass3 rfl rfl ?_; simp only [List.getElem_toArray, List.getElem_cons_succ, List.getElem_cons_zero, Act.put, List.setIfInBounds_toArray, List.set_cons_zero, List.set_cons_succ]) | (refine plan_take (v := ?_) rfl rfl ?_ ?_; rotate_left; (focus (intro w0; go_simp; try with_reducible rfl)); simp only [List.getElem_toArray, List.getElem_cons_succ, List.getElem_cons_zero, Act.put, List.setIfInBounds_toArray, List.set_cons_zero, List.set_cons_succ]) | (refine plan_held (v := ?_) rfl rfl hS1 ?_ ?_; rotate_left; (focus (intro w0 hSw; (try dsimp only at hSw); go_split_ands; go_simp; try with_reducible rfl)); simp only [List.getElem_toArray, List.getElem_cons_succ, List.getElem_cons_zero, Act.put, List.setIfInBounds_toArray, List.set_cons_zero, List.set_cons_succ])  | (refine plan_skip1 rfl rfl hS1 ?_; simp only [List.getElem_toArray, List.getElem_cons_succ, List.getElem_cons_zero, Act.put, List.setIfInBounds_toArray, List.set_cons_zero, List.set_cons_succ]))
  have hbits : (! Sr.within q.seq r.next r.wide) = true := by rw [hw]; rfl
  (refine plan_end rfl rfl rfl fun K hK => ?_; (try simp only [List.getElem_toArray, List.getElem_cons_succ, List.getElem_cons_zero]); go_simp; refine (Within_any _ _ _ (by omega) (by omega) _).mono ?_; rintro e w' ⟨rfl, rfl⟩; refine hK _ _ ?_; clear hK K; try simp only [List.getElem_toArray, List.getElem_cons_succ, List.getElem_cons_zero, Act.put, List.setIfInBounds_toArray, List.set_cons_zero, List.set_cons_succ])
  repeat (first | (refine plan_skip rfl rfl ?_; simp only [List.getElem_toArray, List.getElem_cons_succ, List.getElem_cons_zero, Act.put, List.setIfInBounds_toArray, List.set_cons_zero, List.set_cons_succ]) | (refine plan_pass2 rfl rfl ?_; simp only [List.getElem_toArray, List.getElem_cons_succ, List.getElem_cons_zero, Act.put, List.setIfInBounds_toArray, List.set_cons_zero, List.set_cons_succ]) | (refine plan_pass3 rfl rfl ?_; simp only [List.getElem_toArray, List.getElem_cons_succ, List.getElem_cons_zero, Act.put, List.setIfInBounds_toArray, List.set_cons_zero, List.set_cons_succ]) | (refine plan_take (v := ?_) rfl rfl ?_ ?_; rotate_left; (focus (intro w0; go_simp; try with_reducible rfl)); simp only [List.getElem_toArray, List.getElem_cons_succ, List.getElem_cons_zero, Act.put, List.setIfInBounds_toArray, List.set_cons_zero, List.set_cons_succ]) | fail )
  refine plan_nil ?_
  go_wp2
  go_ret
  exact ⟨rfl, hmA.drew⟩
/-- Take, of whatever packet -/
theorem Take_any (p : Nat) (f : Nat → Prop) (r : Rcv) (q : Pkt) (w : World) (h : RcvAt w p f r) (hq0 : 0 ≤ q.seq) (hq1 : q.seq < 4294967296) (hff : ∀ k, f k → k < w.heap.size) :
    Calls Try.prog 21 #[.pointer (some ⟨p, 0, none⟩), q.val] w fun e w' => ∃ v, e = .returned v ∧ Row w' (fun k => w.heap.size ≤ k) 9 1 v (r.take q).1.length ((r.take q).1.map .string) ∧ RcvAt w' p f (r.take q).2 ∧ Mod f w w' := by
  by_cases hw : Sr.within q.seq r.next r.wide = true
  · exact Take_x p f r q w h hq0 hq1 hw hff
  · refine (Take_no p f r q w h (by simpa using hw)).mono ?_
    rintro e w' ⟨rfl, hm⟩
    have e : r.take q = ([], r) := by unfold Rcv.take; rw [if_neg hw]
    rw [e]
    exact ⟨_, rfl, Row.nil _ _ _ _, h.keep hm fun _ _ f => f, hm.mono fun _ f => f.elim⟩
end Go.Proofs.Ytidkapanpieflaa
