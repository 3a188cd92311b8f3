/- WindowOrders: what lies in memory, and what it means. -/
import Derived.Test.YtidkapanpieflaaOrdRel
import Derived.Test.YtidkapanpieflaaAppR
import Derived.Test.YtidkapanpieflaaLives
namespace Go.Proofs.Ytidkapanpieflaa
open Go.RowKit
set_option linter.unusedVariables false
set_option linter.unusedSimpArgs false
theorem Try.elU32 : Elem Try.prog 47 24 (.int .u32 0) 1 4 := .mk' Try.underlying47 (by kernel_rfl) rfl
theorem RcvAt.drewR {w : World} {p : Nat} {f : Nat → Prop} {s : Rcv} (h : RcvAt w p f s) : RcvAt w.drew p f s := h.keep ((Mod.refl (fun _ => False) w).drew) (fun _ _ f => f)
structure OrdM (w wr : World) (p q : Nat) (vi vo vn va : Value) (c : Nat → Nat) (s : Snd) (r : Rcv) (li lo : List ByteArray) (net : List Pkt) (acks : List Int) : Prop where
  col : Col w wr c
  snd : SndAt wr p (fun k => c k = 1) s
  rcv : RcvAt wr q (fun k => c k = 2) r
  ri : Row wr (fun k => c k = 3) 9 1 vi li.length (li.map .string)
  ro : Row wr (fun k => c k = 4) 9 1 vo lo.length (lo.map .string)
  rn : Row wr (fun k => c k = 5) 36 2 vn net.length (Pkt.vals net)
  ra : Row wr (fun k => c k = 6) 24 1 va acks.length (acks.map fun x => .int .u32 x)
section
variable {w wr w' : World} {p q : Nat} {vi vo vn va v : Value} {c : Nat → Nat} {s s' : Snd} {r r' : Rcv} {li lo l' : List ByteArray} {net net' : List Pkt} {acks acks' : List Int}
theorem OrdM.drew (h : OrdM w wr p q vi vo vn va c s r li lo net acks) : OrdM w wr.drew p q vi vo vn va c s r li lo net acks := ⟨h.col.drew, h.snd, h.rcv.drewR, h.ri.drew, h.ro.drew, h.rn.drew, h.ra.drew⟩
theorem OrdM.still (h : OrdM w wr p q vi vo vn va c s r li lo net acks) (hm : Mod (fun _ => False) wr w') (x : Nat) : OrdM w w' p q vi vo vn va (paint c wr w' x) s r li lo net acks :=
  ⟨h.col.still hm x, h.snd.still h.col hm (by decide) x, h.rcv.still h.col hm (by decide) x, h.ri.stillC h.col hm (by decide) x, h.ro.stillC h.col hm (by decide) x, h.rn.stillC h.col hm (by decide) x, h.ra.stillC h.col hm (by decide) x⟩
theorem OrdM.sndM (h : OrdM w wr p q vi vo vn va c s r li lo net acks) (hs : SndAt w' p (fun k => c k = 1 ∨ wr.heap.size ≤ k) s') (hm : Mod (fun k => c k = 1) wr w') : OrdM w w' p q vi vo vn va (paint c wr w' 1) s' r li lo net acks :=
  ⟨h.col.step hm (by decide) 1, hs.mine h.col (by decide), h.rcv.away h.col hm (by decide) (by decide) 1, h.ri.away h.col hm (by decide) (by decide) 1, h.ro.away h.col hm (by decide) (by decide) 1, h.rn.away h.col hm (by decide) (by decide) 1, h.ra.away h.col hm (by decide) (by decide) 1⟩
theorem OrdM.sndS (h : OrdM w wr p q vi vo vn va c s r li lo net acks) (hs : SndAt w' p (fun k => c k = 1) s') (hm : Mod (fun k => c k = 1) wr w') (x : Nat) : OrdM w w' p q vi vo vn va (paint c wr w' x) s' r li lo net acks :=
  ⟨h.col.step hm (by decide) x, hs.stay h.col (by decide) x, h.rcv.away h.col hm (by decide) (by decide) x, h.ri.away h.col hm (by decide) (by decide) x, h.ro.away h.col hm (by decide) (by decide) x, h.rn.away h.col hm (by decide) (by decide) x, h.ra.away h.col hm (by decide) (by decide) x⟩
theorem OrdM.rcvS (h : OrdM w wr p q vi vo vn va c s r li lo net acks) (hs : RcvAt w' q (fun k => c k = 2) r') (hm : Mod (fun k => c k = 2) wr w') (x : Nat) : OrdM w w' p q vi vo vn va (paint c wr w' x) s r' li lo net acks :=
  ⟨h.col.step hm (by decide) x, h.snd.away h.col hm (by decide) (by decide) x, hs.stay h.col (by decide) x, h.ri.away h.col hm (by decide) (by decide) x, h.ro.away h.col hm (by decide) (by decide) x, h.rn.away h.col hm (by decide) (by decide) x, h.ra.away h.col hm (by decide) (by decide) x⟩
theorem OrdM.inM (h : OrdM w wr p q vi vo vn va c s r li lo net acks) {n : Nat} {xs : List Value} (hr : Row w' (fun k => c k = 3 ∨ wr.heap.size ≤ k) 9 1 v n xs) (hm : Mod (fun k => c k = 3) wr w') (hn : n = l'.length) (hx : xs = l'.map .string) : OrdM w w' p q v vo vn va (paint c wr w' 3) s r l' lo net acks := by
  subst hn hx
  exact ⟨h.col.step hm (by decide) 3, h.snd.away h.col hm (by decide) (by decide) 3, h.rcv.away h.col hm (by decide) (by decide) 3, hr.mine h.col (by decide), h.ro.away h.col hm (by decide) (by decide) 3, h.rn.away h.col hm (by decide) (by decide) 3, h.ra.away h.col hm (by decide) (by decide) 3⟩
theorem OrdM.outM (h : OrdM w wr p q vi vo vn va c s r li lo net acks) {n : Nat} {xs : List Value} (hr : Row w' (fun k => c k = 4 ∨ wr.heap.size ≤ k) 9 1 v n xs) (hm : Mod (fun k => c k = 4) wr w') (hn : n = l'.length) (hx : xs = l'.map .string) : OrdM w w' p q vi v vn va (paint c wr w' 4) s r li l' net acks := by
  subst hn hx
  exact ⟨h.col.step hm (by decide) 4, h.snd.away h.col hm (by decide) (by decide) 4, h.rcv.away h.col hm (by decide) (by decide) 4, h.ri.away h.col hm (by decide) (by decide) 4, hr.mine h.col (by decide), h.rn.away h.col hm (by decide) (by decide) 4, h.ra.away h.col hm (by decide) (by decide) 4⟩
theorem OrdM.netM (h : OrdM w wr p q vi vo vn va c s r li lo net acks) {n : Nat} {xs : List Value} (hr : Row w' (fun k => c k = 5 ∨ wr.heap.size ≤ k) 36 2 v n xs) (hm : Mod (fun k => c k = 5) wr w') (hn : n = net'.length) (hx : xs = Pkt.vals net') : OrdM w w' p q vi vo v va (paint c wr w' 5) s r li lo net' acks := by
  subst hn hx
  exact ⟨h.col.step hm (by decide) 5, h.snd.away h.col hm (by decide) (by decide) 5, h.rcv.away h.col hm (by decide) (by decide) 5, h.ri.away h.col hm (by decide) (by decide) 5, h.ro.away h.col hm (by decide) (by decide) 5, hr.mine h.col (by decide), h.ra.away h.col hm (by decide) (by decide) 5⟩
theorem OrdM.ackM (h : OrdM w wr p q vi vo vn va c s r li lo net acks) {n : Nat} {xs : List Value} (hr : Row w' (fun k => c k = 6 ∨ wr.heap.size ≤ k) 24 1 v n xs) (hm : Mod (fun k => c k = 6) wr w') (hn : n = acks'.length) (hx : xs = acks'.map fun x => .int .u32 x) : OrdM w w' p q vi vo vn v (paint c wr w' 6) s r li lo net acks' := by
  subst hn hx
  exact ⟨h.col.step hm (by decide) 6, h.snd.away h.col hm (by decide) (by decide) 6, h.rcv.away h.col hm (by decide) (by decide) 6, h.ri.away h.col hm (by decide) (by decide) 6, h.ro.away h.col hm (by decide) (by decide) 6, h.rn.away h.col hm (by decide) (by decide) 6, hr.mine h.col (by decide)⟩
end
theorem OrdM.begin {w w2 : World} {p q : Nat} {c : Nat → Nat} {s : Snd} {r : Rcv} (hC : Col w w2 c) (hs : SndAt w2 p (fun k => c k = 1) s) (hr : RcvAt w2 q (fun k => c k = 2) r) :
    ∃ c', OrdM w ((((w2.alloc (.cells #[] 9)).alloc (.cells #[] 9)).alloc (.cells #[] 36)).alloc (.cells #[] 24)) p q (.slice (some ⟨w2.heap.size, 0, none⟩) 0 0) (.slice (some ⟨w2.heap.size + 1, 0, none⟩) 0 0) (.slice (some ⟨w2.heap.size + 1 + 1, 0, none⟩) 0 0) (.slice (some ⟨w2.heap.size + 1 + 1 + 1, 0, none⟩) 0 0) c' s r [] [] [] [] := by
  obtain ⟨wA, hA⟩ : ∃ wA, wA = w2.alloc (.cells #[] 9) := ⟨_, rfl⟩
  obtain ⟨wB, hB⟩ : ∃ wB, wB = wA.alloc (.cells #[] 9) := ⟨_, rfl⟩
  obtain ⟨wC, hCC⟩ : ∃ wC, wC = wB.alloc (.cells #[] 36) := ⟨_, rfl⟩
  obtain ⟨wD, hD⟩ : ∃ wD, wD = wC.alloc (.cells #[] 24) := ⟨_, rfl⟩
  have eA : wA.heap.size = w2.heap.size + 1 := by rw [hA]; simp
  have eB : wB.heap.size = w2.heap.size + 1 + 1 := by rw [hB]; simp [eA]
  have eC : wC.heap.size = w2.heap.size + 1 + 1 + 1 := by rw [hCC]; simp [eB]
  have m1 : Mod (fun _ => False) w2 wA := hA ▸ (Mod.refl _ _).alloc _
  have m2 : Mod (fun _ => False) wA wB := hB ▸ (Mod.refl _ _).alloc _
  have m3 : Mod (fun _ => False) wB wC := hCC ▸ (Mod.refl _ _).alloc _
  have m4 : Mod (fun _ => False) wC wD := hD ▸ (Mod.refl _ _).alloc _
  have r1 : Row wA (fun k => w2.heap.size ≤ k) 9 1 (.slice (some ⟨w2.heap.size, 0, none⟩) 0 0) 0 [] := Row.made (cur := #[]) (hA ▸ allocNew w2 _) rfl (by unfold maxLen; omega) (Nat.le_refl _)
  have r2 : Row wB (fun k => wA.heap.size ≤ k) 9 1 (.slice (some ⟨wA.heap.size, 0, none⟩) 0 0) 0 [] := Row.made (cur := #[]) (hB ▸ allocNew wA _) rfl (by unfold maxLen; omega) (Nat.le_refl _)
  have r3 : Row wC (fun k => wB.heap.size ≤ k) 36 2 (.slice (some ⟨wB.heap.size, 0, none⟩) 0 0) 0 [] := Row.made (cur := #[]) (hCC ▸ allocNew wB _) rfl (by unfold maxLen; omega) (Nat.le_refl _)
  have r4 : Row wD (fun k => wC.heap.size ≤ k) 24 1 (.slice (some ⟨wC.heap.size, 0, none⟩) 0 0) 0 [] := Row.made (cur := #[]) (hD ▸ allocNew wC _) rfl (by unfold maxLen; omega) (Nat.le_refl _)
  rw [← hA, ← hB, ← hCC, ← hD]
  rw [eA] at r2
  rw [eB] at r3
  rw [eC] at r4
  have C1 := hC.still m1 3
  have C2 := C1.still m2 4
  have C3 := C2.still m3 5
  have C4 := C3.still m4 6
  refine ⟨_, C4, (((hs.still hC m1 (by decide) 3).still C1 m2 (by decide) 4).still C2 m3 (by decide) 5).still C3 m4 (by decide) 6, (((hr.still hC m1 (by decide) 3).still C1 m2 (by decide) 4).still C2 m3 (by decide) 5).still C3 m4 (by decide) 6,
    (((r1.born c 3).stillC C1 m2 (by decide) 4).stillC C2 m3 (by decide) 5).stillC C3 m4 (by decide) 6, ?_, ?_, ?_⟩
  · exact ((Row.born (w := wA) (by rw [eA]; exact r2) _ 4).stillC C2 m3 (by decide) 5).stillC C3 m4 (by decide) 6
  · exact (Row.born (w := wB) (by rw [eB]; exact r3) _ 5).stillC C3 m4 (by decide) 6
  · exact Row.born (w := wC) (by rw [eC]; exact r4) _ 6
/-- the logic behind it, at the head of a round -/
structure OrdL (a : Int) (s : Snd) (r : Rcv) (li lo : List ByteArray) (net : List Pkt) (acks : List Int) (j : Nat) : Prop where
  ord : ∃ d t e, Ord a s r li d t e ∧ lo = li.take e ∧ (∀ x ∈ net, ∃ i, i < t ∧ x = pk a li i) ∧ (∀ x ∈ acks, ∃ i, i ≤ e ∧ x = Sr.add a i)
  nl : li.length ≤ j
  nn : net.length ≤ 64 * j
  na : acks.length ≤ j
section
variable {a : Int} {s : Snd} {r : Rcv} {li lo : List ByteArray} {net : List Pkt} {acks : List Int} {j : Nat}
theorem OrdL.start {wd : Nat} (h0 : 0 ≤ a) (h1 : a < 4294967296) (hw0 : 1 ≤ wd) (hw1 : wd ≤ 64) : OrdL a ⟨a, [], 0, wd⟩ ⟨a, wd, []⟩ [] [] [] [] 0 :=
  ⟨⟨0, 0, 0, Ord.start h0 h1 hw0 hw1, rfl, (fun x hx => by cases hx), (fun x hx => by cases hx)⟩, Nat.le_refl _, Nat.le_refl _, Nat.le_refl _⟩
theorem OrdL.skip (h : OrdL a s r li lo net acks j) : OrdL a s r li lo net acks (j + 1) := ⟨h.ord, by have := h.nl; omega, by have := h.nn; omega, by have := h.na; omega⟩
theorem OrdL.push (h : OrdL a s r li lo net acks j) (b : ByteArray) (hj : j < 60) : s.full = true ∧ OrdL a (s.push b) r (li ++ [b]) lo net acks (j + 1) := by
  obtain ⟨d, t, e, ho, hlo, hn, ha⟩ := h.ord
  have hl := h.nl
  obtain ⟨h1, h2⟩ := ho.push b (by omega)
  have ht := ho.tl
  have he := ho.et
  refine ⟨h1, ⟨d, t, e, h2, ?_, fun x hx => ?_, ha⟩, by simp; omega, by have := h.nn; omega, by have := h.na; omega⟩
  · rw [hlo, List.take_append_of_le_length (by omega)]
  · obtain ⟨i, hi, rfl⟩ := hn x hx
    exact ⟨i, hi, (pk_app (by omega)).symm⟩
theorem OrdL.send (h : OrdL a s r li lo net acks j) : s.news.length ≤ 64 ∧ OrdL a s.send r li lo (net ++ s.news) acks (j + 1) := by
  obtain ⟨d, t, e, ho, hlo, hn, ha⟩ := h.ord
  obtain ⟨h1, h2, h3⟩ := ho.send
  have hw := ho.w1
  have htl := ho.tl
  have hdt := ho.dt
  have hlen : s.news.length ≤ 64 := by
    rw [h3]
    simp
    unfold Ord.up
    omega
  refine ⟨hlen, ⟨d, _, e, h2, hlo, fun x hx => ?_, ha⟩, by have := h.nl; omega, by have := h.nn; simp; omega, by have := h.na; omega⟩
  rcases List.mem_append.1 hx with hx | hx
  · obtain ⟨i, hi, rfl⟩ := hn x hx
    exact ⟨i, by omega, rfl⟩
  · rw [h3] at hx
    obtain ⟨i, hi, rfl⟩ := List.mem_map.1 hx
    have := List.mem_range.1 hi
    exact ⟨t + i, by omega, rfl⟩
theorem OrdL.again (h : OrdL a s r li lo net acks j) : s.again.length ≤ 64 ∧ OrdL a s r li lo (net ++ s.again) acks (j + 1) := by
  obtain ⟨d, t, e, ho, hlo, hn, ha⟩ := h.ord
  have h3 := ho.again
  have hw := ho.w1
  have htw := ho.tw
  have hlen : s.again.length ≤ 64 := by rw [h3]; simp; omega
  refine ⟨hlen, ⟨d, t, e, ho, hlo, fun x hx => ?_, ha⟩, by have := h.nl; omega, by have := h.nn; simp; omega, by have := h.na; omega⟩
  rcases List.mem_append.1 hx with hx | hx
  · exact hn x hx
  · rw [h3] at hx
    obtain ⟨i, hi, rfl⟩ := List.mem_map.1 hx
    have := List.mem_range.1 hi
    exact ⟨d + i, by omega, rfl⟩
/-- a packet of the net is taken: it may stay on the net, or go -/
theorem OrdL.take (h : OrdL a s r li lo net acks j) (hok : r.Ok) {x : Pkt} (hx : x ∈ net) : 0 ≤ x.seq ∧ x.seq < 4294967296 ∧ (r.take x).1.length ≤ 1000 ∧ lo.length ≤ 1000 ∧
    OrdL a s (r.take x).2 li (lo ++ (r.take x).1) net (acks ++ [(r.take x).2.next]) (j + 1) := by
  obtain ⟨d, t, e, ho, hlo, hn, ha⟩ := h.ord
  obtain ⟨i, hi, rfl⟩ := hn x hx
  obtain ⟨k, h1, h2, _, _⟩ := ho.take hok hi
  have hb := Sr.add_bd a i
  have hl := ho.n
  refine ⟨hb.1, hb.2, by rw [h1]; simp; omega, by rw [hlo]; simp; omega, ⟨d, t, e + k, h2, ?_, hn, fun y hy => ?_⟩, by have := h.nl; omega, by have := h.nn; omega, by have := h.na; simp; omega⟩
  · rw [hlo, h1, List.take_add]
  · rcases List.mem_append.1 hy with hy | hy
    · obtain ⟨i, hi, rfl⟩ := ha y hy
      exact ⟨i, by omega, rfl⟩
    · obtain rfl : y = _ := by simpa using hy
      exact ⟨e + k, Nat.le_refl _, h2.next⟩
theorem OrdL.drop (h : OrdL a s r li lo net acks j) (at_ : Nat) : OrdL a s r li lo (net.take at_ ++ net.drop (at_ + 1)) acks j := by
  obtain ⟨d, t, e, ho, hlo, hn, ha⟩ := h.ord
  refine ⟨⟨d, t, e, ho, hlo, fun x hx => ?_, ha⟩, h.nl, ?_, h.na⟩
  · rcases List.mem_append.1 hx with hx | hx
    · exact hn x (List.mem_of_mem_take hx)
    · exact hn x (List.mem_of_mem_drop hx)
  · have := h.nn
    simp
    omega
theorem OrdL.twice (h : OrdL a s r li lo net acks j) {x : Pkt} (hx : x ∈ net) : OrdL a s r li lo (net ++ [x]) acks (j + 1) := by
  obtain ⟨d, t, e, ho, hlo, hn, ha⟩ := h.ord
  refine ⟨⟨d, t, e, ho, hlo, fun y hy => ?_, ha⟩, by have := h.nl; omega, by have := h.nn; simp; omega, by have := h.na; omega⟩
  rcases List.mem_append.1 hy with hy | hy
  · exact hn y hy
  · obtain rfl : y = x := by simpa using hy
    exact hn y hx
theorem OrdL.ack (h : OrdL a s r li lo net acks j) {x : Int} (hx : x ∈ acks) : 0 ≤ x ∧ x < 4294967296 ∧ OrdL a (s.ack x) r li lo net acks (j + 1) := by
  obtain ⟨d, t, e, ho, hlo, hn, ha⟩ := h.ord
  obtain ⟨i, hi, rfl⟩ := ha x hx
  obtain ⟨d', h1, _⟩ := ho.ack hi
  have hb := Sr.add_bd a i
  exact ⟨hb.1, hb.2, ⟨d', t, e, h1, hlo, hn, ha⟩, by have := h.nl; omega, by have := h.nn; omega, by have := h.na; omega⟩
/-- what is told is a beginning of what was pushed -/
theorem OrdL.begin (h : OrdL a s r li lo net acks j) : lo.length ≤ li.length ∧ li.take lo.length = lo := by
  obtain ⟨d, t, e, ho, hlo, _⟩ := h.ord
  have := ho.et
  have := ho.tl
  subst hlo
  refine ⟨by simp; omega, ?_⟩
  rw [List.length_take, Nat.min_eq_left (by omega)]
end
theorem reads_take {w : World} {f : Nat → Prop} {ad : Option Addr} {cap : Nat} {l m : List ByteArray} (h : Row w f 9 1 (.slice ad l.length cap) l.length (l.map .string)) (h1 : m.length ≤ l.length) (h2 : l.take m.length = m) : Reads w (.slice ad m.length cap) m.length (m.map .string) := by
  obtain ⟨ad', cap', e, hn, hc, hg⟩ := h.form
  cases e
  refine ⟨_, _, rfl, by omega, hc, fun h0 => ?_⟩
  obtain ⟨g, rfl, _, _, hcg⟩ := hg (by omega)
  refine ⟨g, 0, rfl, fun i u hu => ?_⟩
  rw [Nat.zero_add]
  refine hcg i u ?_
  rw [← h2, List.map_take, List.getElem?_take] at hu
  split at hu
  · exact hu
  · cases hu
theorem vals_all (l : List Pkt) : ∀ u ∈ Pkt.vals l, u.oneCell' = true := by
  intro u hu
  obtain ⟨x, _, hx⟩ := List.mem_flatMap.1 hu
  simp at hx
  rcases hx with rfl | rfl <;> rfl
theorem strs_all (l : List ByteArray) : ∀ u ∈ l.map Value.string, u.oneCell' = true := by
  intro u hu
  obtain ⟨x, _, rfl⟩ := List.mem_map.1 hu
  rfl
/-- behind so many rounds of sending all again -/
structure OrdE (a : Int) (s : Snd) (r : Rcv) (li lo : List ByteArray) (k : Nat) : Prop where
  ord : ∃ d t e, Ord a s r li d t e ∧ lo = li.take e ∧ min k li.length ≤ d
  nl : li.length ≤ 60
/-- within such a round: of the packets that are sent again so many were taken, the last ones first -/
structure OrdI (a : Int) (s : Snd) (r : Rcv) (li lo : List ByteArray) (k n m : Nat) : Prop where
  ord : ∃ d t e, Ord a s r li d t e ∧ lo = li.take e ∧ min (k + 1) li.length ≤ t ∧ n = t - d ∧ s.again = (List.range n).map (fun i => pk a li (d + i)) ∧ ∀ i, t ≤ i + m → d ≤ i → i < t → pk a li i ∈ r.held ∨ i < e
  nl : li.length ≤ 60
  mn : m ≤ n
section
variable {a : Int} {s : Snd} {r : Rcv} {li lo : List ByteArray} {net : List Pkt} {acks : List Int} {j k n m : Nat}
theorem OrdL.over (h : OrdL a s r li lo net acks j) (hj : j ≤ 60) : OrdE a s r li lo 0 := by
  obtain ⟨d, t, e, ho, hlo, _⟩ := h.ord
  exact ⟨⟨d, t, e, ho, hlo, by simp⟩, by have := h.nl; omega⟩
theorem OrdE.send (h : OrdE a s r li lo k) : s.news.length ≤ 64 ∧ ∃ n, n ≤ 64 ∧ s.send.again.length = n ∧ OrdI a s.send r li lo k n 0 := by
  obtain ⟨d, t, e, ho, hlo, hk⟩ := h.ord
  obtain ⟨h1, h2, h3⟩ := ho.send
  have hw := ho.w1
  have hw0 := ho.w0
  have htl := ho.tl
  have hdt := ho.dt
  have hl := h.nl
  have ha := h2.again
  refine ⟨?_, Ord.up s li d - d, ?_, ?_, ⟨⟨d, _, e, h2, hlo, ?_, rfl, ha, fun i g1 g2 g3 => by omega⟩, h.nl, Nat.zero_le _⟩⟩
  · rw [h3]; simp; unfold Ord.up; omega
  · unfold Ord.up; omega
  · rw [ha]; simp
  · unfold Ord.up; omega
theorem OrdI.at_ (h : OrdI a s r li lo k n m) (hm : m < n) (hok : r.Ok) : ∃ x : Pkt, s.again[n - 1 - m]? = some x ∧ 0 ≤ x.seq ∧ x.seq < 4294967296 ∧ (r.take x).1.length ≤ 60 ∧ lo.length ≤ 60 ∧ OrdI a s (r.take x).2 li (lo ++ (r.take x).1) k n (m + 1) := by
  obtain ⟨d, t, e, ho, hlo, hk, hn, ha, hall⟩ := h.ord
  have hl := h.nl
  have hdt := ho.dt
  have hi : d + (n - 1 - m) < t := by omega
  obtain ⟨q, h1, h2, h3, h4⟩ := ho.take hok hi
  have hb := Sr.add_bd a ((d + (n - 1 - m) : Nat) : Int)
  refine ⟨pk a li (d + (n - 1 - m)), ?_, hb.1, hb.2, by rw [h1]; simp; omega, by rw [hlo]; simp; omega, ⟨d, t, e + q, h2, ?_, hk, hn, ha, fun i g1 g2 g3 => ?_⟩, h.nl, by omega⟩
  · rw [ha, List.getElem?_map, List.getElem?_range (by omega)]
    rfl
  · rw [hlo, h1, List.take_add]
  · by_cases hi' : i = d + (n - 1 - m)
    · subst hi'; exact h4
    · rcases hall i (by omega) g2 g3 with g | g
      · rcases h3 _ g with g | ⟨y, g4, g5⟩
        · exact .inl g
        · have hsq := congrArg Pkt.seq g5
          have htl := ho.tl
          have := h2.et
          have : i = y := pk_inj (a := a) (by omega) (by omega) hsq
          exact .inr (by omega)
      · exact .inr (by omega)
theorem OrdI.done (h : OrdI a s r li lo k n n) : 0 ≤ r.next ∧ r.next < 4294967296 ∧ OrdE a (s.ack r.next) r li lo (k + 1) := by
  obtain ⟨d, t, e, ho, hlo, hk, hn, ha, hall⟩ := h.ord
  have hdt := ho.dt
  have het := ho.all fun i g1 g2 => hall i (by omega) g1 g2
  obtain ⟨d', h1, h2⟩ := ho.ack (Nat.le_refl e)
  rw [← ho.next] at h1
  have hb := Sr.add_bd a e
  rw [ho.next]
  rw [ho.next] at h1
  exact ⟨hb.1, hb.2, ⟨d', t, e, h1, hlo, by omega⟩, h.nl⟩
theorem OrdE.last (h : OrdE a s r li lo 60) : lo = li ∧ s.bodies.length = 0 := by
  obtain ⟨d, t, e, ho, hlo, hk⟩ := h.ord
  have hl := h.nl
  have hde := ho.de
  have het := ho.et
  have htl := ho.tl
  refine ⟨?_, ?_⟩
  · rw [hlo, List.take_of_length_le (by omega)]
  · rw [ho.bodies]; simp; omega
end
end Go.Proofs.Ytidkapanpieflaa
