/- Take of the reference's receiver. -/
import Derived.Test.YtidkapanpieflaaRefR
namespace Go.Proofs.Ytidkapanpieflaa
open Go.RowKit Go.MapKept
set_option linter.unusedVariables false
set_option linter.unusedSimpArgs false
theorem Try.elPkts : Elem Try.prog 26 36 (.agg #[.int .u32 0, .string ByteArray.empty]) 2 24 := Try.elPkt
theorem Pkt.idx_spec (l : List Pkt) (k : Int) : (Pkt.idx l k = -1 ∧ Pkt.find l k = none) ∨ ∃ (i : Nat) (h : i < l.length), Pkt.idx l k = i ∧ Pkt.find l k = some l[i] ∧ Pkt.del l k = l.take i ++ l.drop (i + 1) := by
  induction l with
  | nil => exact .inl ⟨rfl, rfl⟩
  | cons p r ih =>
    by_cases hp : p.seq = k
    · exact .inr ⟨0, by simp, by simp [Pkt.idx, List.findIdx?_cons, hp], by simp [Pkt.find, hp], by simp [Pkt.del, hp]⟩
    · rcases ih with ⟨h1, h2⟩ | ⟨i, hi, h1, h2, h3⟩
      · refine .inl ⟨?_, by simpa [Pkt.find, hp] using h2⟩
        unfold Pkt.idx at h1 ⊢
        rw [List.findIdx?_cons]
        simp only [beq_iff_eq, hp, if_false]
        cases hf : r.findIdx? (fun p => p.seq == k) with
        | none => rfl
        | some j => rw [hf] at h1; simp at h1
      · refine .inr ⟨i + 1, by simpa using hi, ?_, by simpa [Pkt.find, hp] using h2, by simpa [Pkt.del, hp] using h3⟩
        unfold Pkt.idx at h1 ⊢
        rw [List.findIdx?_cons]
        simp only [beq_iff_eq, hp, if_false]
        cases hf : r.findIdx? (fun p => p.seq == k) with
        | none => rw [hf] at h1; simp at h1
        | some j => rw [hf] at h1; simp at h1 ⊢; omega
/-- is the number one of the first k that may come? -/
def RefR.inw (s : RefR) (seq : Int) (k : Nat) : Bool := (List.range k).any fun t => Sr.add s.first ((s.n + t : Nat) : Int) == seq
theorem RefR.inw_succ (s : RefR) (seq : Int) (k : Nat) : s.inw seq (k + 1) = (s.inw seq k || Sr.add s.first ((s.n + k : Nat) : Int) == seq) := by simp [RefR.inw, List.range_succ]
theorem RefR.inw_all {s : RefR} (hok : s.Ok) {seq : Int} (h0 : 0 ≤ seq) (h1 : seq < 4294967296) : s.inw seq s.wide = Sr.within seq s.rcv.next s.rcv.wide := by
  have hw := hok.r.w1
  have hw' : s.wide ≤ 64 := hw
  have f0 := hok.f0
  have f1 := hok.f1
  rw [Bool.eq_iff_iff]
  unfold RefR.inw Sr.within RefR.rcv
  simp only [List.any_eq_true, List.mem_range, beq_iff_eq, decide_eq_true_eq]
  constructor
  · rintro ⟨t, ht, rfl⟩
    unfold Sr.add
    split <;> (try split) <;> omega
  · intro h
    refine ⟨((seq - Sr.add s.first s.n) % 4294967296).toNat, ?_, ?_⟩
    · split at h <;> (try split at h) <;> omega
    · unfold Sr.add
      omega
structure RTakeAt (w wr : World) (p : Nat) (f : Nat → Prop) (S : RefR) (v : Value) (o : List ByteArray) (s : RefR) : Prop where
  ok : s.Ok
  fi : s.first = S.first
  wi : s.wide = S.wide
  nn : s.n = S.n + o.length
  blk : ∃ u, wr.heap[p]? = some (.cells #[.int .u32 s.first, .int .i64 s.wide, .int .i64 s.n, u] 44 (0, 0)) ∧ Row wr (fun k => f k ∨ w.heap.size ≤ k) 36 2 u s.held.length (Pkt.vals s.held)
  row : Row wr (fun k => w.heap.size ≤ k) 9 1 v o.length (o.map .string)
  mod : Mod f w wr
  eq : S.rcv.drain S.held.length = (o ++ (s.rcv.drain s.held.length).1, (s.rcv.drain s.held.length).2)
  len : o.length + s.held.length = S.held.length
def RefR.put (s : RefR) (p : Pkt) : RefR := if (Pkt.find s.held p.seq).isSome then s else { s with held := s.held ++ [p] }
theorem RefR.put_rcv (s : RefR) (p : Pkt) : (s.put p).rcv = s.rcv.put p := by
  unfold RefR.put Rcv.put RefR.rcv
  dsimp only
  split <;> rfl
theorem RTakeAt.ref {w wr : World} {p : Nat} {f : Nat → Prop} {S s : RefR} {v : Value} {o : List ByteArray} (h : RTakeAt w wr p f S v o s) (hp : f p) : RefRAt wr p (fun k => f k ∨ w.heap.size ≤ k) s := by
  obtain ⟨u, h1, h2⟩ := h.blk
  exact ⟨h.ok, .inl hp, u, h1, h2⟩
theorem RefRAt.drew {w : World} {p : Nat} {f : Nat → Prop} {s : RefR} (h : RefRAt w p f s) : RefRAt w.drew p f s := h
theorem RTakeAt.drew {w wr : World} {p : Nat} {f : Nat → Prop} {S s : RefR} {v : Value} {o : List ByteArray} (h : RTakeAt w wr p f S v o s) : RTakeAt w wr.drew p f S v o s :=
  ⟨h.ok, h.fi, h.wi, h.nn, h.blk, h.row, h.mod.drew, h.eq, h.len⟩
theorem rtake_end {w wr : World} {p : Nat} {f : Nat → Prop} {s s' : RefR} {q : Pkt} {v : Value} {o : List ByteArray} (hq0 : 0 ≤ q.seq) (hq1 : q.seq < 4294967296) (hp : f p) (hw : Sr.within q.seq s.rcv.next s.rcv.wide = true) (hf : Pkt.find s'.held s'.rcv.next = none) (h : RTakeAt w wr p f (s.put q) v o s') (hnn : s.n + 64 ≤ 1099511627776) (hl : (s.put q).held.length ≤ 64) :
    ∃ u t, Ending.returned v = .returned u ∧ Row wr (fun k => w.heap.size ≤ k) 9 1 u (s.rcv.take q).1.length ((s.rcv.take q).1.map .string) ∧ RefRAt wr p (fun k => f k ∨ w.heap.size ≤ k) t ∧ t.rcv = (s.rcv.take q).2 ∧ t.first = s.first ∧ t.n ≤ s.n + 64 ∧ Mod f w wr := by
  have hfi : (s.put q).first = s.first := by unfold RefR.put; split <;> rfl
  have hn : (s.put q).n = s.n := by unfold RefR.put; split <;> rfl
  have e : s.rcv.take q = (o, s'.rcv) := by
    unfold Rcv.take
    rw [if_pos hw, ← RefR.put_rcv, show (s.put q).rcv.held.length = (s.put q).held.length from rfl, h.eq, show s'.held.length = s'.rcv.held.length from rfl, Rcv.drain_none (r := s'.rcv) hf]
    simp
  rw [e]
  exact ⟨v, s', rfl, h.row, h.ref hp, rfl, by rw [h.fi, hfi], by have := h.nn; have := h.len; omega, h.mod⟩
theorem Row.blockAt {w : World} {f : Nat → Prop} {e : TypeId} {sz n cap g o : Nat} {xs : List Value} {v : Value} (h : Row w f e sz v n xs) (hv : v = .slice (some ⟨g, o, none⟩) n cap) : g < w.heap.size ∧ ∃ cur, w.heap[g]? = some (.cells cur e (0, 0)) := by
  rcases h.1.2 with ⟨rfl, _⟩ | ⟨g', cap', cur, rfl, _, hg, _⟩
  · cases hv
  · simp at hv
    obtain ⟨rfl, _⟩ := hv.1
    exact ⟨lt_of_block hg, cur, hg⟩
theorem vals_append (a b : List Pkt) : Pkt.vals (a ++ b) = Pkt.vals a ++ Pkt.vals b := by simp [Pkt.vals]
theorem vals_take : ∀ (l : List Pkt) (j : Nat), (Pkt.vals l).take (j * 2) = Pkt.vals (l.take j)
  | [], j => by simp [Pkt.vals]
  | p :: r, 0 => by simp [Pkt.vals]
  | p :: r, j + 1 => by
    have e : ∀ p (r : List Pkt), Pkt.vals (p :: r) = .int .u32 p.seq :: .string p.body :: Pkt.vals r := fun _ _ => rfl
    rw [e, List.take_succ_cons, e, ← vals_take r j, show (j + 1) * 2 = j * 2 + 1 + 1 by omega]
    rfl
theorem vals_drop : ∀ (l : List Pkt) (j : Nat), (Pkt.vals l).drop (j * 2) = Pkt.vals (l.drop j)
  | [], j => by simp [Pkt.vals]
  | p :: r, 0 => by simp
  | p :: r, j + 1 => by
    have e : ∀ p (r : List Pkt), Pkt.vals (p :: r) = .int .u32 p.seq :: .string p.body :: Pkt.vals r := fun _ _ => rfl
    rw [e, List.drop_succ_cons, ← vals_drop r j, show (j + 1) * 2 = j * 2 + 1 + 1 by omega]
    rfl
theorem rtake_round {w wr w1 w2 w3 : World} {p j j1 oc cap1 cap2 cap3 : Nat} {f : Nat → Prop} {S s' : RefR} {oa a1 a2 a3 : Option Addr} {o : List ByteArray} {bo : ByteArray} {u : Value}
    (hp : f p) (hpw : p < w.heap.size) (hT : RTakeAt w wr p f S (.slice oa o.length oc) o s') (hf : ∃ x, Pkt.find s'.held s'.rcv.next = some x ∧ x.body = bo) (hdel : Pkt.del s'.held s'.rcv.next = s'.held.take j ++ s'.held.drop (j + 1))
    (hr1 : Row w1 (fun k => w.heap.size ≤ k ∨ wr.heap.size + 1 ≤ k) 9 1 (.slice a1 (o.length + 1) cap1) (o.length + 1) (o.map .string ++ (#[Value.string bo] : Array Value).toList)) (hm1 : Mod (fun k => (Value.slice oa o.length oc).ownBlock = some k) wr w1)
    (hb1 : w1.heap[p]? = some (.cells #[.int .u32 s'.first, .int .i64 s'.wide, .int .i64 s'.n, u] 44 (0, 0)))
    (hm2 : Mod (fun k => (Value.slice (some ⟨w1.heap.size, 0, none⟩) 0 0).ownBlock = some k) w1 w2) (hm3 : Mod (fun k => (Value.slice a2 j cap2).ownBlock = some k) w2 w3) (nb2 : ∀ x, x < w1.heap.size → ¬ (Value.slice a2 j cap2).ownBlock = some x)
    (hr3 : Row w3 (fun k => w1.heap.size ≤ k ∨ w2.heap.size ≤ k) 36 2 (.slice a3 (j + (s'.held.length - j1)) cap3) (j + (s'.held.length - j1)) ((Pkt.vals s'.held).take (j * 2) ++ (Pkt.vals s'.held).drop (j1 * 2)))
    (hb3 : w3.heap[p]? = some (.cells #[.int .u32 s'.first, .int .i64 s'.wide, .int .i64 s'.n, u] 44 (0, 0))) (hj1 : j + 1 = j1) (hjl : j < s'.held.length) (hn2 : s'.n + 1 ≤ 1099511627776) :
    RTakeAt w ((w3.setCell ⟨p, 3, none⟩ (.slice a3 (j + (s'.held.length - j1)) cap3)).setCell ⟨p, 2, none⟩ (.int .i64 ((s'.n : Int) + 1))) p f S (.slice a1 (o.length + 1) cap1) (o ++ [bo]) { s' with n := s'.n + 1, held := Pkt.del s'.held s'.rcv.next } := by
  subst hj1
  obtain ⟨x, hx, rfl⟩ := hf
  have hw1 := Nat.le_trans hT.mod.size hm1.size
  have hp1 := lt_of_block hb1
  have hnx : (⟨Sr.add s'.first ((s'.n + 1 : Nat) : Int), s'.wide, Pkt.del s'.held s'.rcv.next⟩ : Rcv) = { s'.rcv with next := Sr.add s'.rcv.next 1, held := Pkt.del s'.rcv.held s'.rcv.next } := by
    unfold RefR.rcv
    congr 1
    show Sr.add s'.first _ = Sr.add (Sr.add s'.first s'.n) 1
    unfold Sr.add
    omega
  have hlen := Pkt.del_len hx
  have hTn := hT.nn
  have hb4 := setOf hb3 3 (.slice a3 (j + (s'.held.length - (j + 1))) cap3)
  have hb5 := setOf hb4 2 (.int .i64 ((s'.n : Int) + 1))
  have rc : Row w1 (fun k => w.heap.size ≤ k ∧ k < w1.heap.size) 9 1 (.slice a1 (o.length + 1) cap1) (o.length + 1) (o.map .string ++ (#[Value.string x.body] : Array Value).toList) := ⟨hr1.1, fun k hk => ⟨(hr1.2 k hk).elim id (fun h => by have := hT.mod.size; omega), hr1.lt k hk⟩⟩
  have r2 := rc.keep hm2 fun k hk e => by simp [Value.ownBlock] at e; omega
  have r3 := r2.keep hm3 fun k hk e => nb2 k hk.2 e
  have r4 := r3.setFar (p := ⟨p, 3, none⟩) (r3.ne hb3 (by decide)) (.slice a3 (j + (s'.held.length - (j + 1))) cap3)
  have r5 := r4.setFar (p := ⟨p, 2, none⟩) (r4.ne hb4 (by decide)) (.int .i64 ((s'.n : Int) + 1))
  have q4 := hr3.setFar (p := ⟨p, 3, none⟩) (hr3.ne hb3 (by decide)) (.slice a3 (j + (s'.held.length - (j + 1))) cap3)
  have q5 := q4.setFar (p := ⟨p, 2, none⟩) (q4.ne hb4 (by decide)) (.int .i64 ((s'.n : Int) + 1))
  have hdl : (Pkt.del s'.held s'.rcv.next).length = j + (s'.held.length - (j + 1)) := by omega
  have md : Mod f w w3 := ((hT.mod.trans hm1 fun k hk => .inr (hT.row.2 k hk)).trans hm2 fun k hk => by simp [Value.ownBlock] at hk; exact .inr (by omega)).trans hm3 fun k hk => .inr (by
    rcases Nat.lt_or_ge k w1.heap.size with h | h
    · exact absurd hk (nb2 k h)
    · omega)
  refine ⟨⟨hT.ok.f0, hT.ok.f1, hn2, by rw [show RefR.rcv _ = (⟨Sr.add s'.first ((s'.n + 1 : Nat) : Int), s'.wide, Pkt.del s'.held s'.rcv.next⟩ : Rcv) from rfl, hnx]; exact hT.ok.r.step⟩, hT.fi, hT.wi, by show s'.n + 1 = _; simp; omega, ⟨_, hb5, ?_⟩, ?_, (md.setCell (.inl hp) _).setCell (.inl hp) _, ?_, ?_⟩
  · show Row _ _ _ _ _ (Pkt.del s'.held s'.rcv.next).length (Pkt.vals (Pkt.del s'.held s'.rcv.next))
    rw [hdl, hdel, vals_append, ← vals_take, ← vals_drop]
    exact q5.mono fun k hk => .inr (hk.elim (fun h => by omega) fun h => by have := hm2.size; omega)
  · have := r5.mono (f' := fun k => w.heap.size ≤ k) fun k hk => hk.1
    simpa using this
  · rw [hT.eq, show s'.held.length = s'.rcv.held.length from rfl, Rcv.drain_some (r := s'.rcv) hx]
    simp only [List.append_assoc, List.singleton_append]
    show _ = (o ++ x.body :: (Rcv.drain (Pkt.del s'.held s'.rcv.next).length (⟨Sr.add s'.first ((s'.n + 1 : Nat) : Int), s'.wide, Pkt.del s'.held s'.rcv.next⟩ : Rcv)).1, (Rcv.drain (Pkt.del s'.held s'.rcv.next).length (⟨Sr.add s'.first ((s'.n + 1 : Nat) : Int), s'.wide, Pkt.del s'.held s'.rcv.next⟩ : Rcv)).2)
    rw [hnx]
    rfl
  · have := hT.len
    show (o ++ [x.body]).length + (Pkt.del s'.held s'.rcv.next).length = _
    simp; omega
theorem vals_one (l : List Pkt) (n : Nat) : ∀ u ∈ (Pkt.vals l).take n, u.oneCell' = true := by
  intro u hu
  have hu := List.mem_of_mem_take hu
  obtain ⟨p, _, hp⟩ := List.mem_flatMap.1 hu
  simp at hp
  rcases hp with rfl | rfl <;> rfl
theorem vals_one' (l : List Pkt) (n : Nat) : ∀ u ∈ (Pkt.vals l).drop n, u.oneCell' = true := by
  intro u hu
  have hu := List.mem_of_mem_drop hu
  obtain ⟨p, _, hp⟩ := List.mem_flatMap.1 hu
  simp at hp
  rcases hp with rfl | rfl <;> rfl
set_option maxRecDepth 100000 in
set_option maxHeartbeats 1000000 in
theorem RefTake_any (p : Nat) (f : Nat → Prop) (s : RefR) (q : Pkt) (w : World) (h : RefRAt w p f s) (hq0 : 0 ≤ q.seq) (hq1 : q.seq < 4294967296) (hff : ∀ k, f k → k < w.heap.size) (hnn : s.n + 64 ≤ 1099511627776) :
    Calls Try.prog 22 #[.pointer (some ⟨p, 0, none⟩), q.val] w fun e w' => ∃ v s', e = .returned v ∧ Row w' (fun k => w.heap.size ≤ k) 9 1 v (s.rcv.take q).1.length ((s.rcv.take q).1.map .string) ∧ RefRAt w' p (fun k => f k ∨ w.heap.size ≤ k) s' ∧ s'.rcv = (s.rcv.take q).2 ∧ s'.first = s.first ∧ s'.n ≤ s.n + 64 ∧ Mod f w w' := by
  obtain ⟨hok, hp, u, hb, hr⟩ := h
  have hpw := hff p hp
  have c0 : w.cell? ⟨p, 0, none⟩ = some (.int .u32 s.first) := cellOf hb 0
  have c1 : w.cell? ⟨p, 1, none⟩ = some (.int .i64 s.wide) := cellOf hb 1
  have c2 : w.cell? ⟨p, 2, none⟩ = some (.int .i64 s.n) := cellOf hb 2
  have w0 : 1 ≤ s.wide := hok.r.w0
  have w1 : s.wide ≤ 64 := hok.r.w1
  have f0 := hok.f0
  have f1 := hok.f1
  have HB := Lib.hid hb
  have HR := Lib.hid hr
  clear hb hr
  unfold Pkt.val
  go_enter Try.func22, Try.ntmps22
  go_wp2
  obtain ⟨wA, hwA⟩ : ∃ wA, wA = ((w.alloc (.cells #[.int .u32 q.seq, .string q.body] 36)).alloc (.cells #[] 9)) := ⟨_, rfl⟩
  have hmA : Mod (fun _ => False) w wA := hwA ▸ ((Mod.refl _ _).alloc _).alloc _
  have hqA : wA.heap[w.heap.size]? = some (.cells #[.int .u32 q.seq, .string q.body] 36 (0, 0)) := hwA ▸ allocFar (allocNew w _)
  have hoA : wA.heap[w.heap.size + 1]? = some (.cells #[] 9 (0, 0)) := hwA ▸ (by simpa using allocNew (w.alloc (.cells #[.int .u32 q.seq, .string q.body] 36)) (.cells #[] 9))
  have HQA := Lib.hid hqA
  have HOA := Lib.hid hoA
  rw [← hwA]
  clear hwA hqA hoA
  go_loopw [6, 7] (fun b i wr => ∃ k : Nat, k ≤ s.wide ∧ i = .int .i64 k ∧ b = .bool (s.inw q.seq k) ∧ Mod (fun _ => False) wA wr) (fun _ i _ => s.wide - (intOf i).toNat)
  case atStart => exact ⟨0, Nat.zero_le _, rfl, rfl, Mod.refl _ _⟩
  case round =>
    obtain ⟨k, hk, rfl, rfl, hmr⟩ := hrel
    have HMR := Lib.hid (hmA.trans hmr fun _ f => f.elim)
    have d0 := HMR.out.cell (fun f => f) c0
    have d1 := HMR.out.cell (fun f => f) c1
    have d2 := HMR.out.cell (fun f => f) c2
    have dq := hmr.keep HQA.out (fun f => f)
    have q0 : wr.cell? ⟨w.heap.size, 0, none⟩ = some (.int .u32 q.seq) := cellOf dq 0
    by_cases hlt : k < s.wide
    · have hS : wr.drew.cell? ⟨p, 0, none⟩ = some (.int .u32 s.first) ∧ wr.drew.cell? ⟨p, 2, none⟩ = some (.int .i64 s.n) ∧ wr.drew.cell? ⟨w.heap.size, 0, none⟩ = some (.int .u32 q.seq) := ⟨d0, d2, q0⟩
      obtain ⟨t, ht⟩ : ∃ t, s.n + k = t := ⟨_, rfl⟩
      have hw : IntKind.i64.wrap ((s.n : Int) + (k : Int)) = (t : Int) := by rw [IntWalk.i64_in _ (by omega)]; omega
      have hei := s.inw_succ q.seq k
      rw [ht] at hei
      have EI := Lib.hid hei
      have htn : t ≤ 1099511627776 := by omega
      obtain ⟨b0, hb0⟩ : ∃ b, s.inw q.seq k = b := ⟨_, rfl⟩
      rw [hb0]
      have HB0 := Lib.hid hb0
      clear hei ht hb0 hmA c0 c1 c2
      cases b0
      · obtain ⟨b1, hb1⟩ : ∃ b, (Sr.add s.first (t : Int) == q.seq) = b := ⟨_, rfl⟩
        have HB1 := Lib.hid hb1
        go_wp2
        refine wp_region_plan [] [(0, 0), (1, 0), (2, 0), (3, 0), (4, 0), (5, 1), (6, 0), (7, 0), (8, 0), (9, 1), (10, 0), (11, 0), (13, 0), (14, 1), (12, 2), (15, 0), (16, 0), (17, 0)] (fun w' : World => w'.cell? ⟨p, 0, none⟩ = some (.int .u32 s.first) ∧ w'.cell? ⟨p, 2, none⟩ = some (.int .i64 s.n) ∧ w'.cell? ⟨w.heap.size, 0, none⟩ = some (.int .u32 q.seq)) (by kernel_rfl) (by kernel_rfl) (fun d _ _ _ _ h => by cases d <;> exact h) ?_
        repeat (first | (refine plan_skip rfl rfl ?_; simp only [List.getElem_toArray, List.getElem_cons_succ, List.getElem_cons_zero, Act.put, List.setIfInBounds_toArray, List.set_cons_zero, List.set_cons_succ]) | (refine plan_pass2 rfl rfl ?_; simp only [List.getElem_toArray, List.getElem_cons_succ, List.getElem_cons_zero, Act.put, List.setIfInBounds_toArray, List.set_cons_zero, List.set_cons_succ]) | (refine plan_pass3 rfl rfl ?_; simp only [List.getElem_toArray, List.getElem_cons_succ, List.getElem_cons_zero, Act.put, List.setIfInBounds_toArray, List.set_cons_zero, List.set_cons_succ]) | (refine plan_take (v := ?_) rfl rfl ?_ ?_; rotate_left; (focus (intro w0; go_simp; try with_reducible rfl)); simp only [List.getElem_toArray, List.getElem_cons_succ, List.getElem_cons_zero, Act.put, List.setIfInBounds_toArray, List.set_cons_zero, List.set_cons_succ]) | (refine plan_held (v := ?_) rfl rfl hS ?_ ?_; rotate_left; (focus (intro w0 hSw; (try dsimp only at hSw); go_split_ands; go_simp; try with_reducible rfl)); simp only [List.getElem_toArray, List.getElem_cons_succ, List.getElem_cons_zero, Act.put, List.setIfInBounds_toArray, List.set_cons_zero, List.set_cons_succ])  | (refine plan_skip1 rfl rfl hS ?_; simp only [List.getElem_toArray, List.getElem_cons_succ, List.getElem_cons_zero, Act.put, List.setIfInBounds_toArray, List.set_cons_zero, List.set_cons_succ]))
        (refine plan_do rfl rfl fun K hK => ?_; (try simp only [List.getElem_toArray, List.getElem_cons_succ, List.getElem_cons_zero]); go_simp; refine (refAdd_any _ _ (by omega) (by omega) (by omega) (by omega) _).mono ?_; rintro e w' ⟨rfl, rfl⟩; refine hK _ _ ⟨d0, d2, q0⟩ ?_; clear hK K; try simp only [List.getElem_toArray, List.getElem_cons_succ, List.getElem_cons_zero, Act.put, List.setIfInBounds_toArray, List.set_cons_zero, List.set_cons_succ])
        repeat (first | (refine plan_skip rfl rfl ?_; simp only [List.getElem_toArray, List.getElem_cons_succ, List.getElem_cons_zero, Act.put, List.setIfInBounds_toArray, List.set_cons_zero, List.set_cons_succ]) | (refine plan_pass2 rfl rfl ?_; simp only [List.getElem_toArray, List.getElem_cons_succ, List.getElem_cons_zero, Act.put, List.setIfInBounds_toArray, List.set_cons_zero, List.set_cons_succ]) | (refine plan_pass3 rfl rfl ?_; simp only [List.getElem_toArray, List.getElem_cons_succ, List.getElem_cons_zero, Act.put, List.setIfInBounds_toArray, List.set_cons_zero, List.set_cons_succ]) | (refine plan_take (v := ?_) rfl rfl ?_ ?_; rotate_left; (focus (intro w0; go_simp; try with_reducible rfl)); simp only [List.getElem_toArray, List.getElem_cons_succ, List.getElem_cons_zero, Act.put, List.setIfInBounds_toArray, List.set_cons_zero, List.set_cons_succ]) | (refine plan_held (v := ?_) rfl rfl hS ?_ ?_; rotate_left; (focus (intro w0 hSw; (try dsimp only at hSw); go_split_ands; go_simp; try with_reducible rfl)); simp only [List.getElem_toArray, List.getElem_cons_succ, List.getElem_cons_zero, Act.put, List.setIfInBounds_toArray, List.set_cons_zero, List.set_cons_succ])  | (refine plan_skip1 rfl rfl hS ?_; simp only [List.getElem_toArray, List.getElem_cons_succ, List.getElem_cons_zero, Act.put, List.setIfInBounds_toArray, List.set_cons_zero, List.set_cons_succ]))
        refine plan_nil ?_
        clear hS hb1
        go_wp2
        go_roundw
        case rel => exact ⟨k + 1, by omega, by go_num, by rw [EI.out, HB0.out, HB1.out]; rfl, hmr.drew⟩
        case measure => simp [intOf]; omega
      · go_wp2
        refine wp_region_plan [] [(0, 0), (1, 0), (2, 0), (3, 0), (4, 0), (5, 1), (6, 0), (7, 0), (8, 0), (9, 1), (10, 0), (11, 0), (13, 0), (14, 1), (12, 2), (15, 0), (16, 0), (17, 0)] (fun w' : World => w'.cell? ⟨p, 0, none⟩ = some (.int .u32 s.first) ∧ w'.cell? ⟨p, 2, none⟩ = some (.int .i64 s.n) ∧ w'.cell? ⟨w.heap.size, 0, none⟩ = some (.int .u32 q.seq)) (by kernel_rfl) (by kernel_rfl) (fun d _ _ _ _ h => by cases d <;> exact h) ?_
        repeat (first | (refine plan_skip rfl rfl ?_; simp only [List.getElem_toArray, List.getElem_cons_succ, List.getElem_cons_zero, Act.put, List.setIfInBounds_toArray, List.set_cons_zero, List.set_cons_succ]) | (refine plan_pass2 rfl rfl ?_; simp only [List.getElem_toArray, List.getElem_cons_succ, List.getElem_cons_zero, Act.put, List.setIfInBounds_toArray, List.set_cons_zero, List.set_cons_succ]) | (refine plan_pass3 rfl rfl ?_; simp only [List.getElem_toArray, List.getElem_cons_succ, List.getElem_cons_zero, Act.put, List.setIfInBounds_toArray, List.set_cons_zero, List.set_cons_succ]) | (refine plan_take (v := ?_) rfl rfl ?_ ?_; rotate_left; (focus (intro w0; go_simp; try with_reducible rfl)); simp only [List.getElem_toArray, List.getElem_cons_succ, List.getElem_cons_zero, Act.put, List.setIfInBounds_toArray, List.set_cons_zero, List.set_cons_succ]) | (refine plan_held (v := ?_) rfl rfl hS ?_ ?_; rotate_left; (focus (intro w0 hSw; (try dsimp only at hSw); go_split_ands; go_simp; try with_reducible rfl)); simp only [List.getElem_toArray, List.getElem_cons_succ, List.getElem_cons_zero, Act.put, List.setIfInBounds_toArray, List.set_cons_zero, List.set_cons_succ])  | (refine plan_skip1 rfl rfl hS ?_; simp only [List.getElem_toArray, List.getElem_cons_succ, List.getElem_cons_zero, Act.put, List.setIfInBounds_toArray, List.set_cons_zero, List.set_cons_succ]))
        refine plan_nil ?_
        clear hS
        go_wp2
        go_roundw
        case rel => exact ⟨k + 1, by omega, by go_num, by rw [EI.out, HB0.out]; rfl, hmr.drew⟩
        case measure => simp [intOf]; omega
    · obtain rfl : k = s.wide := by omega
      have EW := Lib.hid (RefR.inw_all hok hq0 hq1)
      obtain ⟨b0, hb0⟩ : ∃ b, s.inw q.seq s.wide = b := ⟨_, rfl⟩
      rw [hb0]
      have HB0 := Lib.hid hb0
      clear hb0
      have hrow : Row wr (fun k => w.heap.size ≤ k) 9 1 (.slice (some ⟨w.heap.size + 1, 0, none⟩) 0 0) 0 ((([] : List ByteArray)).map .string) := Row.made (cur := #[]) (hmr.keep HOA.out fun f => f) rfl (by unfold maxLen; omega) (by omega)
      have HROW := Lib.hid hrow
      have HRR := Lib.hid (HR.out.keep HMR.out fun _ _ f => f)
      have HBR := Lib.hid (HMR.out.keep HB.out fun f => f)
      have HQR := Lib.hid dq
      have q1 : wr.cell? ⟨w.heap.size, 1, none⟩ = some (.string q.body) := cellOf dq 1
      clear hrow dq hmr hmA c0 c1 c2
      cases b0
      · go_wp2
        go_ret
        have e : s.rcv.take q = ([], s.rcv) := by
          unfold Rcv.take
          rw [if_neg (by rw [← EW.out, HB0.out]; exact Bool.false_ne_true)]
        rw [e]
        exact ⟨_, s, rfl, HROW.out, ⟨hok, .inl hp, _, HMR.out.keep HB.out (fun f => f), HRR.out.mono fun k hk => .inl hk⟩, rfl, rfl, by omega, HMR.out.mono fun _ f => f.elim⟩
      · have HIN : Hid (Sr.within q.seq s.rcv.next s.rcv.wide = true) := Lib.hid (by rw [← EW.out, HB0.out])
        have HREF := Lib.hid (show RefRAt wr p f s from ⟨hok, hp, u, HBR.out, HRR.out⟩)
        obtain ⟨ua, ucap, rfl, hun, huc, hug⟩ := HRR.out.form
        have d3 : wr.cell? ⟨p, 3, none⟩ = some (.slice ua s.held.length ucap) := cellOf HBR.out 3
        have z3 : wr.frozen? ⟨p, 3, none⟩ = false := freeOf HBR.out 3
        have hlen := hok.r.len
        have hl : s.held.length ≤ 64 := hlen
        clear hug d0 d2 hlen
        rcases Pkt.idx_spec s.held q.seq with ⟨hi, hfind⟩ | ⟨i, hil, hi, hfind, hdel⟩
        · have HF := Lib.hid hfind
          have FIND : Hid (Calls Try.prog 69 #[.pointer (some ⟨p, 0, none⟩), .int .u32 q.seq] wr fun e w' => e = .returned (.int .i64 (-1)) ∧ wr = w') := Lib.hid (hi ▸ find_any p f s q.seq wr HREF.out)
          clear hi hfind
          go_wp2_with fail
          refine FIND.out.mono ?_; rintro e w' ⟨rfl, rfl⟩
          go_wp2
          have hS : wr.drew.cell? ⟨p, 3, none⟩ = some (.slice ua s.held.length ucap) ∧ wr.drew.cell? ⟨w.heap.size, 0, none⟩ = some (.int .u32 q.seq) ∧ wr.drew.cell? ⟨w.heap.size, 1, none⟩ = some (.string q.body) := ⟨d3, q0, q1⟩
          refine wp_region_plan [10] [(0, 0), (1, 0), (2, 0), (3, 0), (4, 1), (5, 1), (6, 2), (7, 2), (8, 0), (9, 0), (10, 3)] (fun w' : World => w'.cell? ⟨p, 3, none⟩ = some (.slice ua s.held.length ucap) ∧ w'.cell? ⟨w.heap.size, 0, none⟩ = some (.int .u32 q.seq) ∧ w'.cell? ⟨w.heap.size, 1, none⟩ = some (.string q.body)) (by kernel_rfl) (by kernel_rfl) (fun d _ _ _ _ h => by cases d <;> exact h) ?_
          repeat (first | (refine plan_skip rfl rfl ?_; simp only [List.getElem_toArray, List.getElem_cons_succ, List.getElem_cons_zero, Act.put, List.setIfInBounds_toArray, List.set_cons_zero, List.set_cons_succ]) | (refine plan_pass2 rfl rfl ?_; simp only [List.getElem_toArray, List.getElem_cons_succ, List.getElem_cons_zero, Act.put, List.setIfInBounds_toArray, List.set_cons_zero, List.set_cons_succ]) | (refine plan_pass3 rfl rfl ?_; simp only [List.getElem_toArray, List.getElem_cons_succ, List.getElem_cons_zero, Act.put, List.setIfInBounds_toArray, List.set_cons_zero, List.set_cons_succ]) | (refine plan_take (v := ?_) rfl rfl ?_ ?_; rotate_left; (focus (intro w0; go_simp; try with_reducible rfl)); simp only [List.getElem_toArray, List.getElem_cons_succ, List.getElem_cons_zero, Act.put, List.setIfInBounds_toArray, List.set_cons_zero, List.set_cons_succ]) | (refine plan_held (v := ?_) rfl rfl hS ?_ ?_; rotate_left; (focus (intro w0 hSw; (try dsimp only at hSw); go_split_ands; go_simp; try with_reducible rfl)); simp only [List.getElem_toArray, List.getElem_cons_succ, List.getElem_cons_zero, Act.put, List.setIfInBounds_toArray, List.set_cons_zero, List.set_cons_succ])  | (refine plan_skip1 rfl rfl hS ?_; simp only [List.getElem_toArray, List.getElem_cons_succ, List.getElem_cons_zero, Act.put, List.setIfInBounds_toArray, List.set_cons_zero, List.set_cons_succ]))
          (refine plan_do rfl rfl fun K hK => ?_; (try simp only [List.getElem_toArray, List.getElem_cons_succ, List.getElem_cons_zero]); go_simp; refine hK _ _ ⟨allocCell _ d3, allocCell _ q0, allocCell _ q1⟩ ?_; clear hK K; try simp only [List.getElem_toArray, List.getElem_cons_succ, List.getElem_cons_zero, Act.put, List.setIfInBounds_toArray, List.set_cons_zero, List.set_cons_succ])
          (refine plan_do rfl rfl fun K hK => ?_; try simp only [List.getElem_toArray, List.getElem_cons_succ, List.getElem_cons_zero])
          refine wp_append_one Try.elPkt (.tmp 47) (.tmp 49) rfl #[.int .u32 q.seq, .string q.body] _ _ _ _ (HRR.out.alloc _).drew wr.heap.size (allocNew wr _) rfl rfl rfl (by simp [Value.oneCell']) (by omega) (by unfold maxLen; omega) ?_
          intro v1 w1 hr1 hm1
          replace hm1 := Mod.allocDrew hm1
          obtain ⟨a1, cap1, rfl, hn1, hc1, hg1⟩ := hr1.form
          have np := HRR.out.ne HBR.out (by decide)
          have nq : ¬ (Value.slice ua s.held.length ucap).ownBlock = some w.heap.size := fun h => by have := hff _ (HRR.out.2 _ h); omega
          have k3 := hm1.cell np d3
          have kz := hm1.free np d3 z3
          refine hK _ _ ⟨k3, hm1.cell nq q0, hm1.cell nq q1⟩ ?_
          clear hK K
          try simp only [List.getElem_toArray, List.getElem_cons_succ, List.getElem_cons_zero, Act.put, List.setIfInBounds_toArray, List.set_cons_zero, List.set_cons_succ]
          have HR1 := Lib.hid hr1
          have HM1 := Lib.hid hm1
          clear hr1 hm1 hg1 hS q0 q1 d3 z3
          repeat (first | (refine plan_skip rfl rfl ?_; simp only [List.getElem_toArray, List.getElem_cons_succ, List.getElem_cons_zero, Act.put, List.setIfInBounds_toArray, List.set_cons_zero, List.set_cons_succ]) | (refine plan_pass2 rfl rfl ?_; simp only [List.getElem_toArray, List.getElem_cons_succ, List.getElem_cons_zero, Act.put, List.setIfInBounds_toArray, List.set_cons_zero, List.set_cons_succ]) | (refine plan_pass3 rfl rfl ?_; simp only [List.getElem_toArray, List.getElem_cons_succ, List.getElem_cons_zero, Act.put, List.setIfInBounds_toArray, List.set_cons_zero, List.set_cons_succ]) | (refine plan_take (v := ?_) rfl rfl ?_ ?_; rotate_left; (focus (intro w0; go_simp; try with_reducible rfl)); simp only [List.getElem_toArray, List.getElem_cons_succ, List.getElem_cons_zero, Act.put, List.setIfInBounds_toArray, List.set_cons_zero, List.set_cons_succ]) | fail )
          (refine plan_end rfl rfl rfl fun K hK => ?_; (try simp only [List.getElem_toArray, List.getElem_cons_succ, List.getElem_cons_zero]); go_simp; refine hK _ _ ?_; clear hK K; try simp only [List.getElem_toArray, List.getElem_cons_succ, List.getElem_cons_zero, Act.put, List.setIfInBounds_toArray, List.set_cons_zero, List.set_cons_succ])
          repeat (first | (refine plan_skip rfl rfl ?_; simp only [List.getElem_toArray, List.getElem_cons_succ, List.getElem_cons_zero, Act.put, List.setIfInBounds_toArray, List.set_cons_zero, List.set_cons_succ]) | (refine plan_pass2 rfl rfl ?_; simp only [List.getElem_toArray, List.getElem_cons_succ, List.getElem_cons_zero, Act.put, List.setIfInBounds_toArray, List.set_cons_zero, List.set_cons_succ]) | (refine plan_pass3 rfl rfl ?_; simp only [List.getElem_toArray, List.getElem_cons_succ, List.getElem_cons_zero, Act.put, List.setIfInBounds_toArray, List.set_cons_zero, List.set_cons_succ]) | (refine plan_take (v := ?_) rfl rfl ?_ ?_; rotate_left; (focus (intro w0; go_simp; try with_reducible rfl)); simp only [List.getElem_toArray, List.getElem_cons_succ, List.getElem_cons_zero, Act.put, List.setIfInBounds_toArray, List.set_cons_zero, List.set_cons_succ]) | fail )
          refine plan_nil ?_
          have hX : RTakeAt w (w1.setCell ⟨p, 3, none⟩ (.slice a1 (s.held.length + 1) cap1)) p f (s.put q) (.slice (some ⟨w.heap.size + 1, 0, none⟩) 0 0) [] (s.put q) := by
            have e : s.put q = { s with held := s.held ++ [q] } := by unfold RefR.put; rw [HF.out]; rfl
            have ok2 : (s.put q).Ok := ⟨by rw [e]; exact f0, by rw [e]; exact f1, by rw [e]; exact hok.nn, by rw [RefR.put_rcv]; exact hok.r.put hq0 hq1 HIN.out⟩
            have hb1 := HM1.out.keep HBR.out np
            have ro := (HROW.out.beside HRR.out (by decide) HM1.out).setFar (p := ⟨p, 3, none⟩) ((HROW.out.beside HRR.out (by decide) HM1.out).ne hb1 (by decide)) (.slice a1 (s.held.length + 1) cap1)
            refine ⟨ok2, rfl, rfl, by simp, ⟨_, by rw [e]; exact setOf hb1 3 _, ?_⟩, ro, ?_, by simp, by simp⟩
            · have := (HR1.out.setFar (p := ⟨p, 3, none⟩) (HR1.out.ne hb1 (by decide)) (.slice a1 (s.held.length + 1) cap1)).mono (f' := fun k => f k ∨ w.heap.size ≤ k) fun k hk => hk.imp id fun h => Nat.le_trans HMR.out.size (allocLe h)
              rw [e]
              simpa [Pkt.vals_snoc] using this
            · exact ((HMR.out.mono (G := f) fun _ f => f.elim).trans HM1.out fun x hx => .inl (HRR.out.2 x hx)).setCell (.inl hp) _
          obtain ⟨wD, hwD⟩ : ∃ wD, wD = (w1.setCell ⟨p, 3, none⟩ (.slice a1 (s.held.length + 1) cap1)) := ⟨_, rfl⟩
          rw [← hwD] at hX ⊢
          have HX := Lib.hid hX
          clear hX hwD np nq k3 kz
          go_wp2_with fail
          refine (RefNext_any p _ (s.put q) _ (HX.out.ref hp)).mono ?_; rintro e w' ⟨rfl, rfl⟩
          go_wp2_with fail
          refine (find_any p _ (s.put q) _ _ (HX.out.ref hp).drew).mono ?_; rintro e w' ⟨rfl, rfl⟩
          have okS : (s.put q).held.length ≤ 64 := HX.out.ok.r.len
          go_wp2
          go_loopw [5, 8] (fun v i wr => ∃ o s', RTakeAt w wr p f (s.put q) v o s' ∧ i = .int .i64 (Pkt.idx s'.held s'.rcv.next)) (fun v _ _ => 65 - lenOf v)
          case atStart => exact ⟨[], s.put q, HX.out.drew, rfl⟩
          case round =>
            obtain ⟨o, s', hT, rfl⟩ := hrel
            obtain ⟨oa, oc, rfl, hno, hco, hgo⟩ := hT.row.form
            obtain ⟨hv, hblk, hrow⟩ := hT.blk
            obtain ⟨va, vc, rfl, hvn, hvc, hvg⟩ := hrow.form
            have HT := Lib.hid hT
            have hlen := hT.len
            have hsl : s'.held.length ≤ 64 := hT.ok.r.len
            have hnn2 := hT.nn
            have hpn : (s.put q).n = s.n := by unfold RefR.put; split <;> rfl
            have hn2 : s'.n ≤ 1099511627776 := by omega
            rw [hpn] at hnn2
            have HN2 := Lib.hid hnn2
            clear hT hgo hnn2 hpn
            rcases Pkt.idx_spec s'.held s'.rcv.next with ⟨hi2, hf2⟩ | ⟨j, hjl, hj, hf2, hdel⟩
            · have HF2 := Lib.hid hf2
              rw [hi2]
              clear hi2 hf2 hvg
              go_wp2
              go_ret
              exact rtake_end hq0 hq1 hp HIN.out HF2.out HT.out hnn okS
            · rw [hj]
              obtain ⟨g, rfl, hfg, hlg, hcg⟩ := hvg (by omega)
              obtain ⟨bo, hbo⟩ : ∃ b, b = s'.held[j].body := ⟨_, rfl⟩
              have e1 : wr.cell? ⟨g, j * 2 + 1, none⟩ = some (.string bo) := hbo ▸ hcg _ _ (vals_get s'.held j hjl).2
              have e3 : wr.cell? ⟨p, 3, none⟩ = some (.slice (some ⟨g, 0, none⟩) s'.held.length vc) := cellOf hblk 3
              have hki : (j : Int) < (s'.held.length : Int) := by omega
              have HF2 : Hid (∃ x, Pkt.find s'.held s'.rcv.next = some x ∧ x.body = bo) := Lib.hid ⟨_, hf2, hbo.symm⟩
              have HDEL := Lib.hid hdel
              have HBLK := Lib.hid hblk
              have HHR := Lib.hid hrow
              have HHC := Lib.hid hcg
              have n1 : ¬ (Value.slice oa o.length oc).ownBlock = some p := fun h => by have := HT.out.row.2 p h; omega
              obtain ⟨hgl, hcur, hgb⟩ := HHR.out.blockAt rfl
              have n2 := HT.out.row.ne hgb (by decide)
              have HGB := Lib.hid hgb
              clear hgb
              clear hj hf2 hdel hbo hblk hrow hcg hfg
              go_wp2_with (at_builtin; refine wpList_append_one Try.elStr rfl (.tmp 63) (.tmp 72) rfl #[.string bo] (fun k => w.heap.size ≤ k) _ _ _ (HT.out.row.alloc _) wr.heap.size (allocNew wr _) rfl rfl rfl (by simp [Value.oneCell']) (by omega) (by unfold maxLen; omega) ?_)
              intro v1 w1 hr1 hm1
              replace hm1 := Mod.allocThen hm1
              obtain ⟨a1, cap1, rfl, hn1, hc1, hg1⟩ := hr1.form
              have k3 := hm1.cell n1 e3
              have hb1 := hm1.keep HBLK.out n1
              have hgb1 := hm1.keep HGB.out n2
              have hh1 := HHR.out.beside HT.out.row (by decide) hm1
              have HR1 := Lib.hid hr1
              have HM1 := Lib.hid hm1
              have HB1 := Lib.hid hb1
              have HGB1 := Lib.hid hgb1
              have HH1 := Lib.hid hh1
              have HHC1 : Hid (∀ i u, (Pkt.vals s'.held)[i]? = some u → w1.cell? ⟨g, i, none⟩ = some u) := Lib.hid fun i u hu => hm1.cell n2 (HHC.out i u hu)
              have hjc : (j : Int) ≤ (vc : Int) := by omega
              have hj1 : (j : Int) + 1 ≤ (s'.held.length : Int) := by omega
              clear hr1 hm1 hb1 hgb1 hh1 hg1 e1 e3
              go_wp2
              have hS : w1.drew.cell? ⟨p, 3, none⟩ = some (.slice (some ⟨g, 0, none⟩) s'.held.length vc) := k3
              obtain ⟨j1, hj1e⟩ : ∃ j1, j + 1 = j1 := ⟨_, rfl⟩
              have hwj : IntKind.i64.wrap ((j : Int) + 1) = (j1 : Int) := by rw [IntWalk.i64_in _ (by omega)]; omega
              have hwj2 : (j : Int) + 1 = (j1 : Int) := by omega
              have hwj3 : Hid (IntKind.i64.wrap (j1 : Int) = (j1 : Int)) := Lib.hid (IntWalk.i64_in _ (by omega))
              have hj1l : j1 ≤ s'.held.length := by omega
              obtain ⟨ad, had, hadl, hadc⟩ := slice_from (size := 2) (k := j1) (vals_len s'.held) HHC1.out hj1l hvn
              have HJ1 := Lib.hid hj1e
              have HAD := Lib.hid had
              have HADL := Lib.hid hadl
              have HADC := Lib.hid hadc
              clear hj1e had hadl hadc hj1
              refine wp_region_plan [19] [(0, 0), (2, 0), (3, 0), (4, 0), (5, 1), (6, 0), (7, 0), (9, 0), (10, 0), (11, 0), (12, 1), (13, 0), (14, 0), (15, 0), (1, 2), (8, 2), (16, 2), (17, 0), (18, 0), (19, 3)] (fun w' : World => w'.cell? ⟨p, 3, none⟩ = some (.slice (some ⟨g, 0, none⟩) s'.held.length vc)) (by kernel_rfl) (by kernel_rfl) (fun d _ _ _ _ h => by cases d <;> exact h) ?_
              repeat (first | (refine plan_skip rfl rfl ?_; simp only [List.getElem_toArray, List.getElem_cons_succ, List.getElem_cons_zero, Act.put, List.setIfInBounds_toArray, List.set_cons_zero, List.set_cons_succ]) | (refine plan_pass2 rfl rfl ?_; simp only [List.getElem_toArray, List.getElem_cons_succ, List.getElem_cons_zero, Act.put, List.setIfInBounds_toArray, List.set_cons_zero, List.set_cons_succ]) | (refine plan_pass3 rfl rfl ?_; simp only [List.getElem_toArray, List.getElem_cons_succ, List.getElem_cons_zero, Act.put, List.setIfInBounds_toArray, List.set_cons_zero, List.set_cons_succ]) | (refine plan_take (v := ?_) rfl rfl ?_ ?_; rotate_left; (focus (intro w0; go_simp; try with_reducible rfl)); simp only [List.getElem_toArray, List.getElem_cons_succ, List.getElem_cons_zero, Act.put, List.setIfInBounds_toArray, List.set_cons_zero, List.set_cons_succ]) | (refine plan_held (v := ?_) rfl rfl hS ?_ ?_; rotate_left; (focus (intro w0 hSw; (try dsimp only at hSw); go_split_ands; go_simp; try with_reducible rfl)); simp only [List.getElem_toArray, List.getElem_cons_succ, List.getElem_cons_zero, Act.put, List.setIfInBounds_toArray, List.set_cons_zero, List.set_cons_succ])  | (refine plan_skip1 rfl rfl hS ?_; simp only [List.getElem_toArray, List.getElem_cons_succ, List.getElem_cons_zero, Act.put, List.setIfInBounds_toArray, List.set_cons_zero, List.set_cons_succ]))
              simp only [hwj3.out]
              (refine plan_take (v := .slice (some ad) (s'.held.length - j1) (vc - j1)) rfl rfl (fun w0 => exec_slice_from (o := ⟨some 89, .slice 26 (.tmp 86) (some (.tmp 88)) none none, _, _, _, _⟩) Try.elPkt rfl rfl rfl hj1l hvn HAD.out w0) ?_; try simp only [List.getElem_toArray, List.getElem_cons_succ, List.getElem_cons_zero, Act.put, List.setIfInBounds_toArray, List.set_cons_zero, List.set_cons_succ])
              repeat (first | (refine plan_skip rfl rfl ?_; simp only [List.getElem_toArray, List.getElem_cons_succ, List.getElem_cons_zero, Act.put, List.setIfInBounds_toArray, List.set_cons_zero, List.set_cons_succ]) | (refine plan_pass2 rfl rfl ?_; simp only [List.getElem_toArray, List.getElem_cons_succ, List.getElem_cons_zero, Act.put, List.setIfInBounds_toArray, List.set_cons_zero, List.set_cons_succ]) | (refine plan_pass3 rfl rfl ?_; simp only [List.getElem_toArray, List.getElem_cons_succ, List.getElem_cons_zero, Act.put, List.setIfInBounds_toArray, List.set_cons_zero, List.set_cons_succ]) | (refine plan_take (v := ?_) rfl rfl ?_ ?_; rotate_left; (focus (intro w0; go_simp; try with_reducible rfl)); simp only [List.getElem_toArray, List.getElem_cons_succ, List.getElem_cons_zero, Act.put, List.setIfInBounds_toArray, List.set_cons_zero, List.set_cons_succ]) | (refine plan_held (v := ?_) rfl rfl hS ?_ ?_; rotate_left; (focus (intro w0 hSw; (try dsimp only at hSw); go_split_ands; go_simp; try with_reducible rfl)); simp only [List.getElem_toArray, List.getElem_cons_succ, List.getElem_cons_zero, Act.put, List.setIfInBounds_toArray, List.set_cons_zero, List.set_cons_succ])  | (refine plan_skip1 rfl rfl hS ?_; simp only [List.getElem_toArray, List.getElem_cons_succ, List.getElem_cons_zero, Act.put, List.setIfInBounds_toArray, List.set_cons_zero, List.set_cons_succ]))
              (refine plan_do rfl rfl fun K hK => ?_; (try simp only [List.getElem_toArray, List.getElem_cons_succ, List.getElem_cons_zero]); go_simp; refine hK _ _ (allocCell _ k3) ?_; clear hK K; try simp only [List.getElem_toArray, List.getElem_cons_succ, List.getElem_cons_zero, Act.put, List.setIfInBounds_toArray, List.set_cons_zero, List.set_cons_succ])
              (refine plan_do rfl rfl fun K hK => ?_; try simp only [List.getElem_toArray, List.getElem_cons_succ, List.getElem_cons_zero])
              have hX1 : (w1.alloc (.cells #[] 36)).drew.heap[w1.heap.size]? = some (.cells #[] 36 (0, 0)) := allocNew w1 _
              have hp1 := lt_of_block HB1.out
              have hg1' := lt_of_block HGB1.out
              refine wp_append_row Try.elPkt (.tmp 75) (.tmp 81) rfl (fun k => w1.heap.size ≤ k) (.slice (some ⟨w1.heap.size, 0, none⟩) 0 0) 0 [] rfl (Row.made (cur := #[]) hX1 rfl (by unfold maxLen; omega) (Nat.le_refl _)) ⟨g, 0, none⟩ j vc ((Pkt.vals s'.held).take (j * 2)) rfl (by rw [List.length_take, vals_len]; omega) (fun i u hu => ?_) (vals_one _ _) (by omega) (by unfold maxLen; omega) ?_
              · rw [List.getElem?_take] at hu
                split at hu
                · rw [addr_add, Nat.zero_add]; exact allocCell _ (HHC1.out _ _ hu)
                · cases hu
              intro v2 w2 hr2 hm2
              have hm2' := Mod.allocDrew hm2
              have nb : ∀ x, x < w1.heap.size → ¬ (Value.slice (some ⟨w1.heap.size, 0, none⟩) 0 0).ownBlock = some x := fun x hx e => by simp [Value.ownBlock] at e; omega
              have k32 := hm2'.cell (nb p hp1) k3
              rw [Nat.zero_add, List.nil_append] at hr2
              obtain ⟨a2, cap2, rfl, hn22, hc22, hg22⟩ := hr2.form
              refine hK _ _ k32 ?_
              clear hK K
              try simp only [List.getElem_toArray, List.getElem_cons_succ, List.getElem_cons_zero, Act.put, List.setIfInBounds_toArray, List.set_cons_zero, List.set_cons_succ]
              have hr2' : Row w2 (fun k => w1.heap.size ≤ k) 36 2 (.slice a2 j cap2) j ((Pkt.vals s'.held).take (j * 2)) := hr2.mono fun k hk => hk.elim id allocLe
              have nb2 : ∀ x, x < w1.heap.size → ¬ (Value.slice a2 j cap2).ownBlock = some x := fun x hx e => by have := hr2'.2 x e; omega
              have HR2 := Lib.hid hr2'
              have HM2 := Lib.hid hm2'
              have NB := Lib.hid nb
              have NB2 := Lib.hid nb2
              clear hr2 hr2' hm2 hm2' nb nb2 hg22 hX1
              repeat (first | (refine plan_skip rfl rfl ?_; simp only [List.getElem_toArray, List.getElem_cons_succ, List.getElem_cons_zero, Act.put, List.setIfInBounds_toArray, List.set_cons_zero, List.set_cons_succ]) | (refine plan_pass2 rfl rfl ?_; simp only [List.getElem_toArray, List.getElem_cons_succ, List.getElem_cons_zero, Act.put, List.setIfInBounds_toArray, List.set_cons_zero, List.set_cons_succ]) | (refine plan_pass3 rfl rfl ?_; simp only [List.getElem_toArray, List.getElem_cons_succ, List.getElem_cons_zero, Act.put, List.setIfInBounds_toArray, List.set_cons_zero, List.set_cons_succ]) | (refine plan_take (v := ?_) rfl rfl ?_ ?_; rotate_left; (focus (intro w0; go_simp; try with_reducible rfl)); simp only [List.getElem_toArray, List.getElem_cons_succ, List.getElem_cons_zero, Act.put, List.setIfInBounds_toArray, List.set_cons_zero, List.set_cons_succ]) | (refine plan_held (v := ?_) rfl rfl k32 ?_ ?_; rotate_left; (focus (intro w0 hSw; (try dsimp only at hSw); go_split_ands; go_simp; try with_reducible rfl)); simp only [List.getElem_toArray, List.getElem_cons_succ, List.getElem_cons_zero, Act.put, List.setIfInBounds_toArray, List.set_cons_zero, List.set_cons_succ])  | (refine plan_skip1 rfl rfl k32 ?_; simp only [List.getElem_toArray, List.getElem_cons_succ, List.getElem_cons_zero, Act.put, List.setIfInBounds_toArray, List.set_cons_zero, List.set_cons_succ]))
              (refine plan_do rfl rfl fun K hK => ?_; try simp only [List.getElem_toArray, List.getElem_cons_succ, List.getElem_cons_zero])
              refine wp_append_row Try.elPkt (.tmp 82) (.tmp 89) rfl (fun k => w1.heap.size ≤ k) (.slice a2 j cap2) j ((Pkt.vals s'.held).take (j * 2)) rfl HR2.out ad (s'.held.length - j1) (vc - j1) ((Pkt.vals s'.held).drop (j1 * 2)) rfl HADL.out (fun i u hu => HM2.out.cell (NB.out _ (World.block_lt_of_cell? w1 _ (HADC.out i u hu))) (HADC.out i u hu)) (vals_one' _ _) (by omega) (by unfold maxLen; omega) ?_
              intro v3 w3 hr3 hm3
              obtain ⟨a3, cap3, rfl, hn33, hc33, hg33⟩ := hr3.form
              have m12 := HM2.out.cell (NB.out p hp1) k3
              have k33 := hm3.cell (NB2.out p hp1) m12
              have z1 : w1.frozen? ⟨p, 3, none⟩ = false := freeOf HB1.out 3
              have z33 := hm3.free (NB2.out p hp1) m12 (HM2.out.free (NB.out p hp1) k3 z1)
              have hb3 := hm3.keep (HM2.out.keep HB1.out (NB.out p hp1)) (NB2.out p hp1)
              refine hK _ _ k33 ?_
              clear hK K
              try simp only [List.getElem_toArray, List.getElem_cons_succ, List.getElem_cons_zero, Act.put, List.setIfInBounds_toArray, List.set_cons_zero, List.set_cons_succ]
              have HR3 := Lib.hid hr3
              have HM3 := Lib.hid hm3
              have HB3 := Lib.hid hb3
              clear hr3 hm3 hb3 hg33 m12 z1 k32 k3 hS
              repeat (first | (refine plan_skip rfl rfl ?_; simp only [List.getElem_toArray, List.getElem_cons_succ, List.getElem_cons_zero, Act.put, List.setIfInBounds_toArray, List.set_cons_zero, List.set_cons_succ]) | (refine plan_pass2 rfl rfl ?_; simp only [List.getElem_toArray, List.getElem_cons_succ, List.getElem_cons_zero, Act.put, List.setIfInBounds_toArray, List.set_cons_zero, List.set_cons_succ]) | (refine plan_pass3 rfl rfl ?_; simp only [List.getElem_toArray, List.getElem_cons_succ, List.getElem_cons_zero, Act.put, List.setIfInBounds_toArray, List.set_cons_zero, List.set_cons_succ]) | (refine plan_take (v := ?_) rfl rfl ?_ ?_; rotate_left; (focus (intro w0; go_simp; try with_reducible rfl)); simp only [List.getElem_toArray, List.getElem_cons_succ, List.getElem_cons_zero, Act.put, List.setIfInBounds_toArray, List.set_cons_zero, List.set_cons_succ]) | fail )
              (refine plan_end rfl rfl rfl fun K hK => ?_; (try simp only [List.getElem_toArray, List.getElem_cons_succ, List.getElem_cons_zero]); go_simp; refine hK _ _ ?_; clear hK K; try simp only [List.getElem_toArray, List.getElem_cons_succ, List.getElem_cons_zero, Act.put, List.setIfInBounds_toArray, List.set_cons_zero, List.set_cons_succ])
              repeat (first | (refine plan_skip rfl rfl ?_; simp only [List.getElem_toArray, List.getElem_cons_succ, List.getElem_cons_zero, Act.put, List.setIfInBounds_toArray, List.set_cons_zero, List.set_cons_succ]) | (refine plan_pass2 rfl rfl ?_; simp only [List.getElem_toArray, List.getElem_cons_succ, List.getElem_cons_zero, Act.put, List.setIfInBounds_toArray, List.set_cons_zero, List.set_cons_succ]) | (refine plan_pass3 rfl rfl ?_; simp only [List.getElem_toArray, List.getElem_cons_succ, List.getElem_cons_zero, Act.put, List.setIfInBounds_toArray, List.set_cons_zero, List.set_cons_succ]) | (refine plan_take (v := ?_) rfl rfl ?_ ?_; rotate_left; (focus (intro w0; go_simp; try with_reducible rfl)); simp only [List.getElem_toArray, List.getElem_cons_succ, List.getElem_cons_zero, Act.put, List.setIfInBounds_toArray, List.set_cons_zero, List.set_cons_succ]) | fail )
              refine plan_nil ?_
              obtain ⟨wG, hwG⟩ : ∃ wG, wG = (w3.setCell ⟨p, 3, none⟩ (.slice a3 (j + (s'.held.length - j1)) cap3)) := ⟨_, rfl⟩
              rw [← hwG]
              have hbG := hwG ▸ setOf HB3.out 3 (.slice a3 (j + (s'.held.length - j1)) cap3)
              have g2 : wG.cell? ⟨p, 2, none⟩ = some (.int .i64 s'.n) := cellOf hbG 2
              have z2 : wG.frozen? ⟨p, 2, none⟩ = false := freeOf hbG 2
              have HWG := Lib.hid hwG
              have HBG := Lib.hid hbG
              clear hwG hbG k33 z33 hwj hwj2
              go_wp2_with fail
              have HT2 := Lib.hid (rtake_round hp hpw HT.out HF2.out HDEL.out HR1.out HM1.out HB1.out HM2.out HM3.out NB2.out HR3.out HB3.out HJ1.out hjl (by have := HN2.out; omega))
              rw [HWG.out]
              refine (RefNext_any p _ { s' with n := s'.n + 1, held := Pkt.del s'.held s'.rcv.next } _ (HT2.out.ref hp)).mono ?_; rintro e w' ⟨rfl, rfl⟩
              go_wp2_with fail
              refine (find_any p _ { s' with n := s'.n + 1, held := Pkt.del s'.held s'.rcv.next } _ _ (HT2.out.ref hp).drew).mono ?_; rintro e w' ⟨rfl, rfl⟩
              go_wp2
              go_roundw
              case rel => exact ⟨_, _, HT2.out.drew, rfl⟩
              case measure => simp [lenOf]; omega
        · have HF := Lib.hid hfind
          have FIND : Hid (Calls Try.prog 69 #[.pointer (some ⟨p, 0, none⟩), .int .u32 q.seq] wr fun e w' => e = .returned (.int .i64 (i : Int)) ∧ wr = w') := Lib.hid (hi ▸ find_any p f s q.seq wr HREF.out)
          clear hi hfind hdel
          go_wp2_with fail
          refine FIND.out.mono ?_; rintro e w' ⟨rfl, rfl⟩
          have hX : RTakeAt w wr p f (s.put q) (.slice (some ⟨w.heap.size + 1, 0, none⟩) 0 0) [] (s.put q) := by
            have e : s.put q = s := by unfold RefR.put; rw [HF.out]; rfl
            rw [e]
            exact ⟨hok, rfl, rfl, by simp, ⟨_, HBR.out, HRR.out.mono fun k hk => .inl hk⟩, HROW.out, HMR.out.mono fun _ f => f.elim, by simp, by simp⟩
          have HX := Lib.hid hX
          clear hX d3 z3 q0 q1
          go_wp2_with fail
          refine (RefNext_any p _ (s.put q) _ (HX.out.ref hp)).mono ?_; rintro e w' ⟨rfl, rfl⟩
          go_wp2_with fail
          refine (find_any p _ (s.put q) _ _ (HX.out.ref hp).drew).mono ?_; rintro e w' ⟨rfl, rfl⟩
          have okS : (s.put q).held.length ≤ 64 := HX.out.ok.r.len
          go_wp2
          go_loopw [5, 8] (fun v i wr => ∃ o s', RTakeAt w wr p f (s.put q) v o s' ∧ i = .int .i64 (Pkt.idx s'.held s'.rcv.next)) (fun v _ _ => 65 - lenOf v)
          case atStart => exact ⟨[], s.put q, HX.out.drew, rfl⟩
          case round =>
            obtain ⟨o, s', hT, rfl⟩ := hrel
            obtain ⟨oa, oc, rfl, hno, hco, hgo⟩ := hT.row.form
            obtain ⟨hv, hblk, hrow⟩ := hT.blk
            obtain ⟨va, vc, rfl, hvn, hvc, hvg⟩ := hrow.form
            have HT := Lib.hid hT
            have hlen := hT.len
            have hsl : s'.held.length ≤ 64 := hT.ok.r.len
            have hnn2 := hT.nn
            have hpn : (s.put q).n = s.n := by unfold RefR.put; split <;> rfl
            have hn2 : s'.n ≤ 1099511627776 := by omega
            rw [hpn] at hnn2
            have HN2 := Lib.hid hnn2
            clear hT hgo hnn2 hpn
            rcases Pkt.idx_spec s'.held s'.rcv.next with ⟨hi2, hf2⟩ | ⟨j, hjl, hj, hf2, hdel⟩
            · have HF2 := Lib.hid hf2
              rw [hi2]
              clear hi2 hf2 hvg
              go_wp2
              go_ret
              exact rtake_end hq0 hq1 hp HIN.out HF2.out HT.out hnn okS
            · rw [hj]
              obtain ⟨g, rfl, hfg, hlg, hcg⟩ := hvg (by omega)
              obtain ⟨bo, hbo⟩ : ∃ b, b = s'.held[j].body := ⟨_, rfl⟩
              have e1 : wr.cell? ⟨g, j * 2 + 1, none⟩ = some (.string bo) := hbo ▸ hcg _ _ (vals_get s'.held j hjl).2
              have e3 : wr.cell? ⟨p, 3, none⟩ = some (.slice (some ⟨g, 0, none⟩) s'.held.length vc) := cellOf hblk 3
              have hki : (j : Int) < (s'.held.length : Int) := by omega
              have HF2 : Hid (∃ x, Pkt.find s'.held s'.rcv.next = some x ∧ x.body = bo) := Lib.hid ⟨_, hf2, hbo.symm⟩
              have HDEL := Lib.hid hdel
              have HBLK := Lib.hid hblk
              have HHR := Lib.hid hrow
              have HHC := Lib.hid hcg
              have n1 : ¬ (Value.slice oa o.length oc).ownBlock = some p := fun h => by have := HT.out.row.2 p h; omega
              obtain ⟨hgl, hcur, hgb⟩ := HHR.out.blockAt rfl
              have n2 := HT.out.row.ne hgb (by decide)
              have HGB := Lib.hid hgb
              clear hgb
              clear hj hf2 hdel hbo hblk hrow hcg hfg
              go_wp2_with (at_builtin; refine wpList_append_one Try.elStr rfl (.tmp 63) (.tmp 72) rfl #[.string bo] (fun k => w.heap.size ≤ k) _ _ _ (HT.out.row.alloc _) wr.heap.size (allocNew wr _) rfl rfl rfl (by simp [Value.oneCell']) (by omega) (by unfold maxLen; omega) ?_)
              intro v1 w1 hr1 hm1
              replace hm1 := Mod.allocThen hm1
              obtain ⟨a1, cap1, rfl, hn1, hc1, hg1⟩ := hr1.form
              have k3 := hm1.cell n1 e3
              have hb1 := hm1.keep HBLK.out n1
              have hgb1 := hm1.keep HGB.out n2
              have hh1 := HHR.out.beside HT.out.row (by decide) hm1
              have HR1 := Lib.hid hr1
              have HM1 := Lib.hid hm1
              have HB1 := Lib.hid hb1
              have HGB1 := Lib.hid hgb1
              have HH1 := Lib.hid hh1
              have HHC1 : Hid (∀ i u, (Pkt.vals s'.held)[i]? = some u → w1.cell? ⟨g, i, none⟩ = some u) := Lib.hid fun i u hu => hm1.cell n2 (HHC.out i u hu)
              have hjc : (j : Int) ≤ (vc : Int) := by omega
              have hj1 : (j : Int) + 1 ≤ (s'.held.length : Int) := by omega
              clear hr1 hm1 hb1 hgb1 hh1 hg1 e1 e3
              go_wp2
              have hS : w1.drew.cell? ⟨p, 3, none⟩ = some (.slice (some ⟨g, 0, none⟩) s'.held.length vc) := k3
              obtain ⟨j1, hj1e⟩ : ∃ j1, j + 1 = j1 := ⟨_, rfl⟩
              have hwj : IntKind.i64.wrap ((j : Int) + 1) = (j1 : Int) := by rw [IntWalk.i64_in _ (by omega)]; omega
              have hwj2 : (j : Int) + 1 = (j1 : Int) := by omega
              have hwj3 : Hid (IntKind.i64.wrap (j1 : Int) = (j1 : Int)) := Lib.hid (IntWalk.i64_in _ (by omega))
              have hj1l : j1 ≤ s'.held.length := by omega
              obtain ⟨ad, had, hadl, hadc⟩ := slice_from (size := 2) (k := j1) (vals_len s'.held) HHC1.out hj1l hvn
              have HJ1 := Lib.hid hj1e
              have HAD := Lib.hid had
              have HADL := Lib.hid hadl
              have HADC := Lib.hid hadc
              clear hj1e had hadl hadc hj1
              refine wp_region_plan [19] [(0, 0), (2, 0), (3, 0), (4, 0), (5, 1), (6, 0), (7, 0), (9, 0), (10, 0), (11, 0), (12, 1), (13, 0), (14, 0), (15, 0), (1, 2), (8, 2), (16, 2), (17, 0), (18, 0), (19, 3)] (fun w' : World => w'.cell? ⟨p, 3, none⟩ = some (.slice (some ⟨g, 0, none⟩) s'.held.length vc)) (by kernel_rfl) (by kernel_rfl) (fun d _ _ _ _ h => by cases d <;> exact h) ?_
              repeat (first | (refine plan_skip rfl rfl ?_; simp only [List.getElem_toArray, List.getElem_cons_succ, List.getElem_cons_zero, Act.put, List.setIfInBounds_toArray, List.set_cons_zero, List.set_cons_succ]) | (refine plan_pass2 rfl rfl ?_; simp only [List.getElem_toArray, List.getElem_cons_succ, List.getElem_cons_zero, Act.put, List.setIfInBounds_toArray, List.set_cons_zero, List.set_cons_succ]) | (refine plan_pass3 rfl rfl ?_; simp only [List.getElem_toArray, List.getElem_cons_succ, List.getElem_cons_zero, Act.put, List.setIfInBounds_toArray, List.set_cons_zero, List.set_cons_succ]) | (refine plan_take (v := ?_) rfl rfl ?_ ?_; rotate_left; (focus (intro w0; go_simp; try with_reducible rfl)); simp only [List.getElem_toArray, List.getElem_cons_succ, List.getElem_cons_zero, Act.put, List.setIfInBounds_toArray, List.set_cons_zero, List.set_cons_succ]) | (refine plan_held (v := ?_) rfl rfl hS ?_ ?_; rotate_left; (focus (intro w0 hSw; (try dsimp only at hSw); go_split_ands; go_simp; try with_reducible rfl)); simp only [List.getElem_toArray, List.getElem_cons_succ, List.getElem_cons_zero, Act.put, List.setIfInBounds_toArray, List.set_cons_zero, List.set_cons_succ])  | (refine plan_skip1 rfl rfl hS ?_; simp only [List.getElem_toArray, List.getElem_cons_succ, List.getElem_cons_zero, Act.put, List.setIfInBounds_toArray, List.set_cons_zero, List.set_cons_succ]))
              simp only [hwj3.out]
              (refine plan_take (v := .slice (some ad) (s'.held.length - j1) (vc - j1)) rfl rfl (fun w0 => exec_slice_from (o := ⟨some 89, .slice 26 (.tmp 86) (some (.tmp 88)) none none, _, _, _, _⟩) Try.elPkt rfl rfl rfl hj1l hvn HAD.out w0) ?_; try simp only [List.getElem_toArray, List.getElem_cons_succ, List.getElem_cons_zero, Act.put, List.setIfInBounds_toArray, List.set_cons_zero, List.set_cons_succ])
              repeat (first | (refine plan_skip rfl rfl ?_; simp only [List.getElem_toArray, List.getElem_cons_succ, List.getElem_cons_zero, Act.put, List.setIfInBounds_toArray, List.set_cons_zero, List.set_cons_succ]) | (refine plan_pass2 rfl rfl ?_; simp only [List.getElem_toArray, List.getElem_cons_succ, List.getElem_cons_zero, Act.put, List.setIfInBounds_toArray, List.set_cons_zero, List.set_cons_succ]) | (refine plan_pass3 rfl rfl ?_; simp only [List.getElem_toArray, List.getElem_cons_succ, List.getElem_cons_zero, Act.put, List.setIfInBounds_toArray, List.set_cons_zero, List.set_cons_succ]) | (refine plan_take (v := ?_) rfl rfl ?_ ?_; rotate_left; (focus (intro w0; go_simp; try with_reducible rfl)); simp only [List.getElem_toArray, List.getElem_cons_succ, List.getElem_cons_zero, Act.put, List.setIfInBounds_toArray, List.set_cons_zero, List.set_cons_succ]) | (refine plan_held (v := ?_) rfl rfl hS ?_ ?_; rotate_left; (focus (intro w0 hSw; (try dsimp only at hSw); go_split_ands; go_simp; try with_reducible rfl)); simp only [List.getElem_toArray, List.getElem_cons_succ, List.getElem_cons_zero, Act.put, List.setIfInBounds_toArray, List.set_cons_zero, List.set_cons_succ])  | (refine plan_skip1 rfl rfl hS ?_; simp only [List.getElem_toArray, List.getElem_cons_succ, List.getElem_cons_zero, Act.put, List.setIfInBounds_toArray, List.set_cons_zero, List.set_cons_succ]))
              (refine plan_do rfl rfl fun K hK => ?_; (try simp only [List.getElem_toArray, List.getElem_cons_succ, List.getElem_cons_zero]); go_simp; refine hK _ _ (allocCell _ k3) ?_; clear hK K; try simp only [List.getElem_toArray, List.getElem_cons_succ, List.getElem_cons_zero, Act.put, List.setIfInBounds_toArray, List.set_cons_zero, List.set_cons_succ])
              (refine plan_do rfl rfl fun K hK => ?_; try simp only [List.getElem_toArray, List.getElem_cons_succ, List.getElem_cons_zero])
              have hX1 : (w1.alloc (.cells #[] 36)).drew.heap[w1.heap.size]? = some (.cells #[] 36 (0, 0)) := allocNew w1 _
              have hp1 := lt_of_block HB1.out
              have hg1' := lt_of_block HGB1.out
              refine wp_append_row Try.elPkt (.tmp 75) (.tmp 81) rfl (fun k => w1.heap.size ≤ k) (.slice (some ⟨w1.heap.size, 0, none⟩) 0 0) 0 [] rfl (Row.made (cur := #[]) hX1 rfl (by unfold maxLen; omega) (Nat.le_refl _)) ⟨g, 0, none⟩ j vc ((Pkt.vals s'.held).take (j * 2)) rfl (by rw [List.length_take, vals_len]; omega) (fun i u hu => ?_) (vals_one _ _) (by omega) (by unfold maxLen; omega) ?_
              · rw [List.getElem?_take] at hu
                split at hu
                · rw [addr_add, Nat.zero_add]; exact allocCell _ (HHC1.out _ _ hu)
                · cases hu
              intro v2 w2 hr2 hm2
              have hm2' := Mod.allocDrew hm2
              have nb : ∀ x, x < w1.heap.size → ¬ (Value.slice (some ⟨w1.heap.size, 0, none⟩) 0 0).ownBlock = some x := fun x hx e => by simp [Value.ownBlock] at e; omega
              have k32 := hm2'.cell (nb p hp1) k3
              rw [Nat.zero_add, List.nil_append] at hr2
              obtain ⟨a2, cap2, rfl, hn22, hc22, hg22⟩ := hr2.form
              refine hK _ _ k32 ?_
              clear hK K
              try simp only [List.getElem_toArray, List.getElem_cons_succ, List.getElem_cons_zero, Act.put, List.setIfInBounds_toArray, List.set_cons_zero, List.set_cons_succ]
              have hr2' : Row w2 (fun k => w1.heap.size ≤ k) 36 2 (.slice a2 j cap2) j ((Pkt.vals s'.held).take (j * 2)) := hr2.mono fun k hk => hk.elim id allocLe
              have nb2 : ∀ x, x < w1.heap.size → ¬ (Value.slice a2 j cap2).ownBlock = some x := fun x hx e => by have := hr2'.2 x e; omega
              have HR2 := Lib.hid hr2'
              have HM2 := Lib.hid hm2'
              have NB := Lib.hid nb
              have NB2 := Lib.hid nb2
              clear hr2 hr2' hm2 hm2' nb nb2 hg22 hX1
              repeat (first | (refine plan_skip rfl rfl ?_; simp only [List.getElem_toArray, List.getElem_cons_succ, List.getElem_cons_zero, Act.put, List.setIfInBounds_toArray, List.set_cons_zero, List.set_cons_succ]) | (refine plan_pass2 rfl rfl ?_; simp only [List.getElem_toArray, List.getElem_cons_succ, List.getElem_cons_zero, Act.put, List.setIfInBounds_toArray, List.set_cons_zero, List.set_cons_succ]) | (refine plan_pass3 rfl rfl ?_; simp only [List.getElem_toArray, List.getElem_cons_succ, List.getElem_cons_zero, Act.put, List.setIfInBounds_toArray, List.set_cons_zero, List.set_cons_succ]) | (refine plan_take (v := ?_) rfl rfl ?_ ?_; rotate_left; (focus (intro w0; go_simp; try with_reducible rfl)); simp only [List.getElem_toArray, List.getElem_cons_succ, List.getElem_cons_zero, Act.put, List.setIfInBounds_toArray, List.set_cons_zero, List.set_cons_succ]) | (refine plan_held (v := ?_) rfl rfl k32 ?_ ?_; rotate_left; (focus (intro w0 hSw; (try dsimp only at hSw); go_split_ands; go_simp; try with_reducible rfl)); simp only [List.getElem_toArray, List.getElem_cons_succ, List.getElem_cons_zero, Act.put, List.setIfInBounds_toArray, List.set_cons_zero, List.set_cons_succ])  | (refine plan_skip1 rfl rfl k32 ?_; simp only [List.getElem_toArray, List.getElem_cons_succ, List.getElem_cons_zero, Act.put, List.setIfInBounds_toArray, List.set_cons_zero, List.set_cons_succ]))
              (refine plan_do rfl rfl fun K hK => ?_; try simp only [List.getElem_toArray, List.getElem_cons_succ, List.getElem_cons_zero])
              refine wp_append_row Try.elPkt (.tmp 82) (.tmp 89) rfl (fun k => w1.heap.size ≤ k) (.slice a2 j cap2) j ((Pkt.vals s'.held).take (j * 2)) rfl HR2.out ad (s'.held.length - j1) (vc - j1) ((Pkt.vals s'.held).drop (j1 * 2)) rfl HADL.out (fun i u hu => HM2.out.cell (NB.out _ (World.block_lt_of_cell? w1 _ (HADC.out i u hu))) (HADC.out i u hu)) (vals_one' _ _) (by omega) (by unfold maxLen; omega) ?_
              intro v3 w3 hr3 hm3
              obtain ⟨a3, cap3, rfl, hn33, hc33, hg33⟩ := hr3.form
              have m12 := HM2.out.cell (NB.out p hp1) k3
              have k33 := hm3.cell (NB2.out p hp1) m12
              have z1 : w1.frozen? ⟨p, 3, none⟩ = false := freeOf HB1.out 3
              have z33 := hm3.free (NB2.out p hp1) m12 (HM2.out.free (NB.out p hp1) k3 z1)
              have hb3 := hm3.keep (HM2.out.keep HB1.out (NB.out p hp1)) (NB2.out p hp1)
              refine hK _ _ k33 ?_
              clear hK K
              try simp only [List.getElem_toArray, List.getElem_cons_succ, List.getElem_cons_zero, Act.put, List.setIfInBounds_toArray, List.set_cons_zero, List.set_cons_succ]
              have HR3 := Lib.hid hr3
              have HM3 := Lib.hid hm3
              have HB3 := Lib.hid hb3
              clear hr3 hm3 hb3 hg33 m12 z1 k32 k3 hS
              repeat (first | (refine plan_skip rfl rfl ?_; simp only [List.getElem_toArray, List.getElem_cons_succ, List.getElem_cons_zero, Act.put, List.setIfInBounds_toArray, List.set_cons_zero, List.set_cons_succ]) | (refine plan_pass2 rfl rfl ?_; simp only [List.getElem_toArray, List.getElem_cons_succ, List.getElem_cons_zero, Act.put, List.setIfInBounds_toArray, List.set_cons_zero, List.set_cons_succ]) | (refine plan_pass3 rfl rfl ?_; simp only [List.getElem_toArray, List.getElem_cons_succ, List.getElem_cons_zero, Act.put, List.setIfInBounds_toArray, List.set_cons_zero, List.set_cons_succ]) | (refine plan_take (v := ?_) rfl rfl ?_ ?_; rotate_left; (focus (intro w0; go_simp; try with_reducible rfl)); simp only [List.getElem_toArray, List.getElem_cons_succ, List.getElem_cons_zero, Act.put, List.setIfInBounds_toArray, List.set_cons_zero, List.set_cons_succ]) | fail )
              (refine plan_end rfl rfl rfl fun K hK => ?_; (try simp only [List.getElem_toArray, List.getElem_cons_succ, List.getElem_cons_zero]); go_simp; refine hK _ _ ?_; clear hK K; try simp only [List.getElem_toArray, List.getElem_cons_succ, List.getElem_cons_zero, Act.put, List.setIfInBounds_toArray, List.set_cons_zero, List.set_cons_succ])
              repeat (first | (refine plan_skip rfl rfl ?_; simp only [List.getElem_toArray, List.getElem_cons_succ, List.getElem_cons_zero, Act.put, List.setIfInBounds_toArray, List.set_cons_zero, List.set_cons_succ]) | (refine plan_pass2 rfl rfl ?_; simp only [List.getElem_toArray, List.getElem_cons_succ, List.getElem_cons_zero, Act.put, List.setIfInBounds_toArray, List.set_cons_zero, List.set_cons_succ]) | (refine plan_pass3 rfl rfl ?_; simp only [List.getElem_toArray, List.getElem_cons_succ, List.getElem_cons_zero, Act.put, List.setIfInBounds_toArray, List.set_cons_zero, List.set_cons_succ]) | (refine plan_take (v := ?_) rfl rfl ?_ ?_; rotate_left; (focus (intro w0; go_simp; try with_reducible rfl)); simp only [List.getElem_toArray, List.getElem_cons_succ, List.getElem_cons_zero, Act.put, List.setIfInBounds_toArray, List.set_cons_zero, List.set_cons_succ]) | fail )
              refine plan_nil ?_
              obtain ⟨wG, hwG⟩ : ∃ wG, wG = (w3.setCell ⟨p, 3, none⟩ (.slice a3 (j + (s'.held.length - j1)) cap3)) := ⟨_, rfl⟩
              rw [← hwG]
              have hbG := hwG ▸ setOf HB3.out 3 (.slice a3 (j + (s'.held.length - j1)) cap3)
              have g2 : wG.cell? ⟨p, 2, none⟩ = some (.int .i64 s'.n) := cellOf hbG 2
              have z2 : wG.frozen? ⟨p, 2, none⟩ = false := freeOf hbG 2
              have HWG := Lib.hid hwG
              have HBG := Lib.hid hbG
              clear hwG hbG k33 z33 hwj hwj2
              go_wp2_with fail
              have HT2 := Lib.hid (rtake_round hp hpw HT.out HF2.out HDEL.out HR1.out HM1.out HB1.out HM2.out HM3.out NB2.out HR3.out HB3.out HJ1.out hjl (by have := HN2.out; omega))
              rw [HWG.out]
              refine (RefNext_any p _ { s' with n := s'.n + 1, held := Pkt.del s'.held s'.rcv.next } _ (HT2.out.ref hp)).mono ?_; rintro e w' ⟨rfl, rfl⟩
              go_wp2_with fail
              refine (find_any p _ { s' with n := s'.n + 1, held := Pkt.del s'.held s'.rcv.next } _ _ (HT2.out.ref hp).drew).mono ?_; rintro e w' ⟨rfl, rfl⟩
              go_wp2
              go_roundw
              case rel => exact ⟨_, _, HT2.out.drew, rfl⟩
              case measure => simp [lenOf]; omega
end Go.Proofs.Ytidkapanpieflaa
