/- A life of a link (package link): what it is in memory, and what its functions do. -/
import Derived.Test.YtidkapanpieflaaAppR
import Derived.Test.YtidkapanpieflaaRcvTake
import Derived.Test.YtidkapanpieflaaOwn
import Derived.Test.YtidkapanpieflaaRng
import Derived.Handy
namespace Go.Proofs.Ytidkapanpieflaa
open Go.RowKit
set_option linter.unusedVariables false
set_option linter.unusedSimpArgs false
structure MsgV where
  node : Int
  up : Bool
  epoch : Int
  kind : Int
  ack : Int
  seq : Int
  body : ByteArray
def MsgV.cells (m : MsgV) : Array Value := #[.int .i64 m.node, .bool m.up, .int .u32 m.epoch, .int .i64 m.kind, .int .u32 m.ack, .int .u32 m.seq, .string m.body]
def MsgV.vals (l : List MsgV) : List Value := l.flatMap fun m => m.cells.toList
theorem MsgV.vals_snoc (l : List MsgV) (m : MsgV) : MsgV.vals (l ++ [m]) = MsgV.vals l ++ m.cells.toList := by simp [MsgV.vals]
theorem MsgV.vals_app (a b : List MsgV) : MsgV.vals (a ++ b) = MsgV.vals a ++ MsgV.vals b := by simp [MsgV.vals]
theorem MsgV.vals_len (l : List MsgV) : (MsgV.vals l).length = l.length * 7 := by
  induction l with
  | nil => rfl
  | cons m l ih => simp only [MsgV.vals, List.flatMap_cons, List.length_append, MsgV.cells] at ih ⊢; simp at ih ⊢; omega
theorem MsgV.vals_all (l : List MsgV) : ∀ u ∈ MsgV.vals l, u.oneCell' = true := by
  intro u hu
  obtain ⟨x, _, hx⟩ := List.mem_flatMap.1 hu
  simp [MsgV.cells] at hx
  rcases hx with rfl | rfl | rfl | rfl | rfl | rfl | rfl <;> rfl
theorem Try.elMsg : Elem Try.prog 72 65 (.agg #[.int .i64 0, .bool false, .int .u32 0, .int .i64 0, .int .u32 0, .int .u32 0, .string ByteArray.empty]) 7 48 := .mk' Try.underlying72 (by kernel_rfl) rfl
structure Life where
  node : Int
  up : Bool
  epoch : Int
  out : Snd
  inn : Rcv
/-- the life's fields alone -/
def Life.cells (L : Life) (po pi : Nat) : Array Value := #[.int .i64 L.node, .bool L.up, .int .u32 L.epoch, .pointer (some ⟨po, 0, none⟩), .pointer (some ⟨pi, 0, none⟩)]
def LifeAt (w : World) (p : Nat) (f : Nat → Prop) (L : Life) : Prop :=
  (0 ≤ L.epoch ∧ L.epoch < 4294967296) ∧ f p ∧ ∃ (po pi : Nat) (fs fr : Nat → Prop), w.heap[p]? = some (.cells (L.cells po pi) 110 (0, 0)) ∧ SndAt w po fs L.out ∧ RcvAt w pi fr L.inn ∧ (∀ k, fs k → f k ∧ k ≠ p ∧ ¬ fr k) ∧ (∀ k, fr k → f k ∧ k ≠ p)
theorem LifeAt.keep {w w' : World} {F f : Nat → Prop} {p : Nat} {L : Life} (h : LifeAt w p f L) (hm : Mod F w w') (hd : ∀ k, f k → ¬ F k) : LifeAt w' p f L := by
  obtain ⟨h1, h2, po, pi, fs, fr, h3, h4, h5, h6, h7⟩ := h
  exact ⟨h1, h2, po, pi, fs, fr, hm.keep h3 (hd p h2), h4.keep hm fun k hk => hd k (h6 k hk).1, h5.keep hm fun k hk => hd k (h7 k hk).1, h6, h7⟩
theorem LifeAt.mono {w : World} {f f' : Nat → Prop} {p : Nat} {L : Life} (h : LifeAt w p f L) (hf : ∀ k, f k → k < w.heap.size → f' k) : LifeAt w p f' L := by
  obtain ⟨h1, h2, po, pi, fs, fr, h3, h4, h5, h6, h7⟩ := h
  exact ⟨h1, hf p h2 (lt_of_block h3), po, pi, fun k => fs k ∧ k < w.heap.size, fun k => fr k ∧ k < w.heap.size, h3, h4.clip, h5.clip, fun k hk => ⟨hf k (h6 k hk.1).1 hk.2, (h6 k hk.1).2.1, fun h => (h6 k hk.1).2.2 h.1⟩, fun k hk => ⟨hf k (h7 k hk.1).1 hk.2, (h7 k hk.1).2⟩⟩
theorem LifeAt.drew {w : World} {f : Nat → Prop} {p : Nat} {L : Life} (h : LifeAt w p f L) : LifeAt w.drew p f L := h.keep ((Mod.refl (fun _ => False) w).drew) fun _ _ f => f
def Life.fresh (n : Int) (up : Bool) (ep : Int) : Life := ⟨n, up, ep, ⟨0, [], 0, 8⟩, ⟨0, 8, []⟩⟩
theorem fresh_any (n : Int) (up : Bool) (ep : Int) (w : World) (h0 : 0 ≤ ep) (h1 : ep < 4294967296) :
    Calls Try.prog 72 #[.int .i64 n, .bool up, .int .u32 ep] w fun e w' => ∃ p, e = .returned (.pointer (some ⟨p, 0, none⟩)) ∧ LifeAt w' p (fun k => w.heap.size ≤ k) (Life.fresh n up ep) ∧ Mod (fun _ => False) w w' := by
  go_enter Try.func72, Try.ntmps72
  go_wp2_with fail
  refine (NewSender_any 0 8 _ (by decide) (by decide)).mono ?_; rintro e w1 ⟨po, rfl, hs, hm⟩
  have HS := Lib.hid hs.clip
  have HM := Lib.hid hm
  clear hs hm
  go_wp2_with fail
  refine (NewReceiver_any 0 8 _ (by decide) (by decide)).mono ?_; rintro e w2 ⟨pi, rfl, hr, hm⟩
  have HR := Lib.hid hr.clip
  have HS2 := Lib.hid (HS.out.keep hm fun _ _ f => f)
  have HM2 := Lib.hid (HM.out.trans hm fun _ f => f.elim)
  have hs1 := HM.out.size
  have hs2 := hm.size
  clear hr hm HS HM
  go_wp2
  go_ret
  have ha : Mod (fun _ => False) w2 (w2.alloc (.cells (Life.cells (Life.fresh n up ep) po pi) 110)) := (Mod.refl _ _).alloc _
  refine ⟨_, rfl, ⟨⟨h0, h1⟩, by show w.heap.size ≤ w2.heap.size; omega, po, pi, _, _, allocNew w2 _, HS2.out.keep ha fun _ _ f => f, HR.out.keep ha fun _ _ f => f, fun k hk => ⟨hk.1, by omega, fun h => by omega⟩, fun k hk => ⟨by omega, by omega⟩⟩, HM2.out.trans ha fun _ f => f.elim⟩
def Life.msg (L : Life) (kind : Int) : MsgV := ⟨L.node, L.up, L.epoch, kind, L.inn.next, 0, ⟨#[]⟩⟩
set_option maxRecDepth 100000 in
theorem msg_any (p : Nat) (f : Nat → Prop) (L : Life) (kind : Int) (w : World) (h : LifeAt w p f L) :
    Calls Try.prog 81 #[.pointer (some ⟨p, 0, none⟩), .int .i64 kind] w fun e w' => e = .returned (.agg (L.msg kind).cells) ∧ Mod (fun _ => False) w w' := by
  obtain ⟨_, _, po, pi, fs, fr, hb, hs, hr, _, _⟩ := h
  have c0 : w.cell? ⟨p, 0, none⟩ = some (.int .i64 L.node) := cellOf hb 0
  have c1 : w.cell? ⟨p, 1, none⟩ = some (.bool L.up) := cellOf hb 1
  have c2 : w.cell? ⟨p, 2, none⟩ = some (.int .u32 L.epoch) := cellOf hb 2
  have c4 : w.cell? ⟨p, 4, none⟩ = some (.pointer (some ⟨pi, 0, none⟩)) := cellOf hb 4
  have hpl := lt_of_block hb
  have HR := Lib.hid hr
  clear hb hs hr
  go_enter Try.func81, Try.ntmps81
  go_wp2
  obtain ⟨wA, hwA⟩ : ∃ wA, wA = w.alloc (.cells #[.int .i64 0, .bool false, .int .u32 0, .int .i64 0, .int .u32 0, .int .u32 0, .string ⟨#[]⟩] 65) := ⟨_, rfl⟩
  have hbA : wA.heap[w.heap.size]? = some (.cells #[.int .i64 0, .bool false, .int .u32 0, .int .i64 0, .int .u32 0, .int .u32 0, .string ⟨#[]⟩] 65 (0, 0)) := hwA ▸ allocNew w _
  have hm : Mod (fun _ => False) w wA := hwA ▸ (Mod.refl _ _).alloc _
  rw [← hwA]
  have hS : wA.drew.cell? ⟨p, 0, none⟩ = some (.int .i64 L.node) ∧ wA.drew.cell? ⟨p, 1, none⟩ = some (.bool L.up) ∧ wA.drew.cell? ⟨p, 2, none⟩ = some (.int .u32 L.epoch) ∧ wA.drew.cell? ⟨p, 4, none⟩ = some (.pointer (some ⟨pi, 0, none⟩)) := ⟨hm.cell (fun f => f) c0, hm.cell (fun f => f) c1, hm.cell (fun f => f) c2, hm.cell (fun f => f) c4⟩
  have HRA := Lib.hid (HR.out.keep hm.drew fun _ _ f => f)
  have HM := Lib.hid hm
  have HB := Lib.hid hbA
  have HBD : Hid (wA.drew.heap[w.heap.size]? = some (.cells #[.int .i64 0, .bool false, .int .u32 0, .int .i64 0, .int .u32 0, .int .u32 0, .string ⟨#[]⟩] 65 (0, 0))) := Lib.hid hbA
  have HWA := Lib.hid hwA
  clear hm hwA c0 c1 c2 c4 HR hbA
  refine wp_region_plan [19] [(0, 0), (1, 0), (2, 0), (3, 1), (4, 0), (5, 0), (6, 0), (7, 1), (8, 0), (9, 0), (10, 0), (11, 1), (12, 0), (13, 0), (14, 0), (15, 0), (16, 1), (17, 2), (18, 0), (19, 3)] (fun w' : World => w'.cell? ⟨p, 0, none⟩ = some (.int .i64 L.node) ∧ w'.cell? ⟨p, 1, none⟩ = some (.bool L.up) ∧ w'.cell? ⟨p, 2, none⟩ = some (.int .u32 L.epoch) ∧ w'.cell? ⟨p, 4, none⟩ = some (.pointer (some ⟨pi, 0, none⟩))) (by kernel_rfl) (by kernel_rfl) (fun d _ _ _ _ h => by cases d <;> exact h) ?_
  repeat (first | (refine plan_skip rfl rfl ?_; simp only [List.getElem_toArray, List.getElem_cons_succ, List.getElem_cons_zero, Act.put, List.setIfInBounds_toArray, List.set_cons_zero, List.set_cons_succ]) | (refine plan_pass2 rfl rfl ?_; simp only [List.getElem_toArray, List.getElem_cons_succ, List.getElem_cons_zero, Act.put, List.setIfInBounds_toArray, List.set_cons_zero, List.set_cons_succ]) | (refine plan_pass3 rfl rfl ?_; simp only [List.getElem_toArray, List.getElem_cons_succ, List.getElem_cons_zero, Act.put, List.setIfInBounds_toArray, List.set_cons_zero, List.set_cons_succ]) | (refine plan_take (v := ?_) rfl rfl ?_ ?_; rotate_left; (focus (intro w0; go_simp; try with_reducible rfl)); simp only [List.getElem_toArray, List.getElem_cons_succ, List.getElem_cons_zero, Act.put, List.setIfInBounds_toArray, List.set_cons_zero, List.set_cons_succ]) | (refine plan_held (v := ?_) rfl rfl hS ?_ ?_; rotate_left; (focus (intro w0 hSw; (try dsimp only at hSw); go_split_ands; go_simp; try with_reducible rfl)); simp only [List.getElem_toArray, List.getElem_cons_succ, List.getElem_cons_zero, Act.put, List.setIfInBounds_toArray, List.set_cons_zero, List.set_cons_succ])  | (refine plan_skip1 rfl rfl hS ?_; simp only [List.getElem_toArray, List.getElem_cons_succ, List.getElem_cons_zero, Act.put, List.setIfInBounds_toArray, List.set_cons_zero, List.set_cons_succ]))
  (refine plan_do rfl rfl fun K hK => ?_; try simp only [List.getElem_toArray, List.getElem_cons_succ, List.getElem_cons_zero])
  go_simp
  refine (Next_any pi _ L.inn _ HRA.out).mono ?_; rintro e w' ⟨rfl, rfl⟩
  refine hK _ _ hS ?_
  clear hK K
  try simp only [List.getElem_toArray, List.getElem_cons_succ, List.getElem_cons_zero, Act.put, List.setIfInBounds_toArray, List.set_cons_zero, List.set_cons_succ]
  repeat (first | (refine plan_skip rfl rfl ?_; simp only [List.getElem_toArray, List.getElem_cons_succ, List.getElem_cons_zero, Act.put, List.setIfInBounds_toArray, List.set_cons_zero, List.set_cons_succ]) | (refine plan_pass2 rfl rfl ?_; simp only [List.getElem_toArray, List.getElem_cons_succ, List.getElem_cons_zero, Act.put, List.setIfInBounds_toArray, List.set_cons_zero, List.set_cons_succ]) | (refine plan_pass3 rfl rfl ?_; simp only [List.getElem_toArray, List.getElem_cons_succ, List.getElem_cons_zero, Act.put, List.setIfInBounds_toArray, List.set_cons_zero, List.set_cons_succ]) | (refine plan_take (v := ?_) rfl rfl ?_ ?_; rotate_left; (focus (intro w0; go_simp; try with_reducible rfl)); simp only [List.getElem_toArray, List.getElem_cons_succ, List.getElem_cons_zero, Act.put, List.setIfInBounds_toArray, List.set_cons_zero, List.set_cons_succ]) | (refine plan_held (v := ?_) rfl rfl hS ?_ ?_; rotate_left; (focus (intro w0 hSw; (try dsimp only at hSw); go_split_ands; go_simp; try with_reducible rfl)); simp only [List.getElem_toArray, List.getElem_cons_succ, List.getElem_cons_zero, Act.put, List.setIfInBounds_toArray, List.set_cons_zero, List.set_cons_succ])  | (refine plan_skip1 rfl rfl hS ?_; simp only [List.getElem_toArray, List.getElem_cons_succ, List.getElem_cons_zero, Act.put, List.setIfInBounds_toArray, List.set_cons_zero, List.set_cons_succ]))
  rw [HWA.out]
  clear hS HRA HB HBD
  (refine plan_end rfl rfl rfl fun K hK => ?_; (try simp only [List.getElem_toArray, List.getElem_cons_succ, List.getElem_cons_zero]); go_simp; refine hK _ _ ?_; clear hK K; try simp only [List.getElem_toArray, List.getElem_cons_succ, List.getElem_cons_zero, Act.put, List.setIfInBounds_toArray, List.set_cons_zero, List.set_cons_succ])
  repeat (first | (refine plan_skip rfl rfl ?_; simp only [List.getElem_toArray, List.getElem_cons_succ, List.getElem_cons_zero, Act.put, List.setIfInBounds_toArray, List.set_cons_zero, List.set_cons_succ]) | (refine plan_pass2 rfl rfl ?_; simp only [List.getElem_toArray, List.getElem_cons_succ, List.getElem_cons_zero, Act.put, List.setIfInBounds_toArray, List.set_cons_zero, List.set_cons_succ]) | (refine plan_pass3 rfl rfl ?_; simp only [List.getElem_toArray, List.getElem_cons_succ, List.getElem_cons_zero, Act.put, List.setIfInBounds_toArray, List.set_cons_zero, List.set_cons_succ]) | (refine plan_take (v := ?_) rfl rfl ?_ ?_; rotate_left; (focus (intro w0; go_simp; try with_reducible rfl)); simp only [List.getElem_toArray, List.getElem_cons_succ, List.getElem_cons_zero, Act.put, List.setIfInBounds_toArray, List.set_cons_zero, List.set_cons_succ]) | fail )
  refine plan_nil ?_
  go_wp2
  go_returns
  exact ⟨rfl, ((Mod.refl _ _).alloc _).drew⟩
def Life.body (L : Life) (x : Pkt) : MsgV := ⟨L.node, L.up, L.epoch, 2, L.inn.next, x.seq, x.body⟩
set_option maxRecDepth 100000 in
theorem bodies_any (p : Nat) (f : Nat → Prop) (L : Life) (v1 : Value) (pkts : List Pkt) (w : World) (h : LifeAt w p f L) (hv : Reads w v1 pkts.length (Pkt.vals pkts)) (hn : pkts.length ≤ 1000000) :
    Calls Try.prog 73 #[.pointer (some ⟨p, 0, none⟩), v1] w fun e w' => ∃ v, e = .returned v ∧ Row w' (fun k => w.heap.size ≤ k) 65 7 v pkts.length (MsgV.vals (pkts.map L.body)) ∧ Mod (fun _ => False) w w' := by
  obtain ⟨ad, cap, rfl, hnc, hcm, hg⟩ := hv
  have H := Lib.hid h
  have HG := Lib.hid hg
  obtain ⟨n, hnn⟩ : ∃ n, n = pkts.length := ⟨_, rfl⟩
  rw [← hnn] at hn hnc ⊢
  have HN := Lib.hid hnn
  clear h hg hnn
  go_enter Try.func73, Try.ntmps73
  go_wp2
  go_loopw [5, 11] (fun v i wr => ∃ k : Nat, k ≤ n ∧ i = .int .i64 k ∧ Row wr (fun k => w.heap.size ≤ k) 65 7 v k (MsgV.vals ((pkts.take k).map L.body)) ∧ Mod (fun _ => False) w wr) (fun _ i _ => n - (intOf i).toNat)
  case atStart => exact ⟨0, Nat.zero_le _, rfl, by simpa [MsgV.vals] using Row.nil w _ _ _, Mod.refl _ _⟩
  case round =>
    obtain ⟨k, hk, rfl, hr, hm⟩ := hrel
    have HR := Lib.hid hr
    have HM := Lib.hid hm
    obtain ⟨a5, c5, rfl, hk5, hc5, _⟩ := hr.form
    clear hr hm
    by_cases hlt : k < n
    · have hki : (k : Int) < (n : Int) := by omega
      have hkl : k < pkts.length := by rw [← HN.out]; exact hlt
      obtain ⟨g, o, rfl, hcg⟩ := HG.out (by omega)
      obtain ⟨x, hx⟩ : ∃ x, x = pkts[k]'hkl := ⟨_, rfl⟩
      have x0 : wr.cell? ⟨g, o + k * 2, none⟩ = some (.int .u32 x.seq) := HM.out.cell (fun f => f) (hx ▸ hcg _ _ (vals_get pkts k hkl).1)
      have x1 : wr.cell? ⟨g, o + k * 2 + 1, none⟩ = some (.string x.body) := HM.out.cell (fun f => f) (hx ▸ hcg _ _ (vals_get pkts k hkl).2)
      have HX : Hid (pkts.take (k + 1) = pkts.take k ++ [x]) := Lib.hid (by rw [List.take_add_one, List.getElem?_eq_getElem hkl, hx]; rfl)
      clear hcg hx hkl
      go_wp2_with fail
      have hmA : Mod (fun _ => False) wr (wr.alloc (.cells #[.int .u32 x.seq, .string x.body] 36)) := (Mod.refl _ _).alloc _
      refine (msg_any p f L 2 _ ((H.out.keep HM.out fun _ _ f => f).keep hmA fun _ _ f => f)).mono ?_; rintro e w3 ⟨rfl, hm3⟩
      have HM3 := Lib.hid (hmA.trans hm3 fun _ f => f.elim)
      have y0 : w3.cell? ⟨wr.heap.size, 0, none⟩ = some (.int .u32 x.seq) := hm3.cell (fun f => f) (cellOf (allocNew wr _) 0)
      have y1 : w3.cell? ⟨wr.heap.size, 1, none⟩ = some (.string x.body) := hm3.cell (fun f => f) (cellOf (allocNew wr _) 1)
      obtain ⟨pb, hpb⟩ : ∃ pb, pb = wr.heap.size := ⟨_, rfl⟩
      rw [← hpb] at y0 y1 ⊢
      clear hmA hm3 x0 x1 hpb
      unfold Life.msg MsgV.cells
      go_wp2_with fail
      have hS : (w3.alloc (.cells #[.int .i64 L.node, .bool L.up, .int .u32 L.epoch, .int .i64 2, .int .u32 L.inn.next, .int .u32 0, .string ⟨#[]⟩] 65)).drew.cell? ⟨pb, 0, none⟩ = some (.int .u32 x.seq) ∧ (w3.alloc (.cells #[.int .i64 L.node, .bool L.up, .int .u32 L.epoch, .int .i64 2, .int .u32 L.inn.next, .int .u32 0, .string ⟨#[]⟩] 65)).drew.cell? ⟨pb, 1, none⟩ = some (.string x.body) := ⟨allocCell _ y0, allocCell _ y1⟩
      refine wp_region_plan [7] [(0, 0), (1, 1), (2, 0), (3, 1), (4, 0), (5, 2), (6, 0), (7, 3)] (fun w' : World => w'.cell? ⟨pb, 0, none⟩ = some (.int .u32 x.seq) ∧ w'.cell? ⟨pb, 1, none⟩ = some (.string x.body)) (by kernel_rfl) (by kernel_rfl) (fun d _ _ _ _ h => by cases d <;> exact h) ?_
      repeat (first | (refine plan_skip rfl rfl ?_; simp only [List.getElem_toArray, List.getElem_cons_succ, List.getElem_cons_zero, Act.put, List.setIfInBounds_toArray, List.set_cons_zero, List.set_cons_succ]) | (refine plan_pass2 rfl rfl ?_; simp only [List.getElem_toArray, List.getElem_cons_succ, List.getElem_cons_zero, Act.put, List.setIfInBounds_toArray, List.set_cons_zero, List.set_cons_succ]) | (refine plan_pass3 rfl rfl ?_; simp only [List.getElem_toArray, List.getElem_cons_succ, List.getElem_cons_zero, Act.put, List.setIfInBounds_toArray, List.set_cons_zero, List.set_cons_succ]) | (refine plan_take (v := ?_) rfl rfl ?_ ?_; rotate_left; (focus (intro w0; go_simp; try with_reducible rfl)); simp only [List.getElem_toArray, List.getElem_cons_succ, List.getElem_cons_zero, Act.put, List.setIfInBounds_toArray, List.set_cons_zero, List.set_cons_succ]) | (refine plan_held (v := ?_) rfl rfl hS ?_ ?_; rotate_left; (focus (intro w0 hSw; (try dsimp only at hSw); go_split_ands; go_simp; try with_reducible rfl)); simp only [List.getElem_toArray, List.getElem_cons_succ, List.getElem_cons_zero, Act.put, List.setIfInBounds_toArray, List.set_cons_zero, List.set_cons_succ])  | (refine plan_skip1 rfl rfl hS ?_; simp only [List.getElem_toArray, List.getElem_cons_succ, List.getElem_cons_zero, Act.put, List.setIfInBounds_toArray, List.set_cons_zero, List.set_cons_succ]))
      clear hS
      (refine plan_do rfl rfl fun K hK => ?_; (try simp only [List.getElem_toArray, List.getElem_cons_succ, List.getElem_cons_zero]); go_simp; refine hK _ _ ⟨allocCell _ y0, allocCell _ y1⟩ ?_; clear hK K; try simp only [List.getElem_toArray, List.getElem_cons_succ, List.getElem_cons_zero, Act.put, List.setIfInBounds_toArray, List.set_cons_zero, List.set_cons_succ])
      repeat (first | (refine plan_skip rfl rfl ?_; simp only [List.getElem_toArray, List.getElem_cons_succ, List.getElem_cons_zero, Act.put, List.setIfInBounds_toArray, List.set_cons_zero, List.set_cons_succ]) | (refine plan_pass2 rfl rfl ?_; simp only [List.getElem_toArray, List.getElem_cons_succ, List.getElem_cons_zero, Act.put, List.setIfInBounds_toArray, List.set_cons_zero, List.set_cons_succ]) | (refine plan_pass3 rfl rfl ?_; simp only [List.getElem_toArray, List.getElem_cons_succ, List.getElem_cons_zero, Act.put, List.setIfInBounds_toArray, List.set_cons_zero, List.set_cons_succ]) | (refine plan_take (v := ?_) rfl rfl ?_ ?_; rotate_left; (focus (intro w0; go_simp; try with_reducible rfl)); simp only [List.getElem_toArray, List.getElem_cons_succ, List.getElem_cons_zero, Act.put, List.setIfInBounds_toArray, List.set_cons_zero, List.set_cons_succ]) | fail )
      (refine plan_end rfl rfl rfl fun K hK => ?_; (try simp only [List.getElem_toArray, List.getElem_cons_succ, List.getElem_cons_zero]); go_simp; refine hK _ _ ?_; clear hK K; try simp only [List.getElem_toArray, List.getElem_cons_succ, List.getElem_cons_zero, Act.put, List.setIfInBounds_toArray, List.set_cons_zero, List.set_cons_succ])
      repeat (first | (refine plan_skip rfl rfl ?_; simp only [List.getElem_toArray, List.getElem_cons_succ, List.getElem_cons_zero, Act.put, List.setIfInBounds_toArray, List.set_cons_zero, List.set_cons_succ]) | (refine plan_pass2 rfl rfl ?_; simp only [List.getElem_toArray, List.getElem_cons_succ, List.getElem_cons_zero, Act.put, List.setIfInBounds_toArray, List.set_cons_zero, List.set_cons_succ]) | (refine plan_pass3 rfl rfl ?_; simp only [List.getElem_toArray, List.getElem_cons_succ, List.getElem_cons_zero, Act.put, List.setIfInBounds_toArray, List.set_cons_zero, List.set_cons_succ]) | (refine plan_take (v := ?_) rfl rfl ?_ ?_; rotate_left; (focus (intro w0; go_simp; try with_reducible rfl)); simp only [List.getElem_toArray, List.getElem_cons_succ, List.getElem_cons_zero, Act.put, List.setIfInBounds_toArray, List.set_cons_zero, List.set_cons_succ]) | fail )
      refine plan_nil ?_
      clear y0 y1
      have HR3 := Lib.hid (HR.out.keep HM3.out fun _ _ f => f)
      obtain ⟨cs, hcs⟩ : ∃ cs, cs = (L.body x).cells := ⟨_, rfl⟩
      have hcs1 : cs.size = 7 := by rw [hcs]; rfl
      have hcs2 : ∀ u ∈ cs.toList, u.oneCell' = true := by rw [hcs]; simp [Life.body, MsgV.cells, Value.oneCell']
      have HCS := Lib.hid hcs
      clear hcs
      go_wp2_with (at_builtin; go_loud (refine wpList_append_one Try.elMsg rfl (.tmp 23) (.tmp 25) rfl cs _ _ _ _ ((HR3.out.alloc _).alloc _).drew (w3.heap.size + 1) (by rw [HCS.out]; exact allocNewAt (w := w3.alloc (.cells (L.body x).cells 65)) (o := .cells (L.body x).cells 65) (by simp)) rfl rfl hcs1 hcs2 (by omega) (by unfold maxLen; omega) ?_))
      intro v4 w4 hR hm4
      obtain ⟨a4, c4, rfl, hn4, hc4, _⟩ := hR.form
      have hsz := Nat.le_trans HM.out.size HM3.out.size
      have hm5 : Mod (fun _ => False) w w4 := ((((HM.out.trans HM3.out fun _ f => f.elim).alloc _).alloc _).drew).trans hm4 fun y hy => .inr (HR3.out.2 y hy)
      have hR5 : Row w4 (fun k => w.heap.size ≤ k) 65 7 (.slice a4 (k + 1) c4) (k + 1) (MsgV.vals ((pkts.take (k + 1)).map L.body)) := by
        have := hR.mono (f' := fun k => w.heap.size ≤ k) fun y hy => hy.elim id fun h => by first | omega | (simp at h; omega)
        rw [HX.out, List.map_append, List.map_cons, List.map_nil, MsgV.vals_snoc, ← HCS.out]
        simpa only [List.map_take] using this
      have HR5 := Lib.hid hR5
      have HM5 := Lib.hid hm5
      clear hR hm4 hm5 hR5 HR3 HCS hcs1 hcs2 HM3 HR HX
      go_wp2
      go_roundw
      case rel => exact ⟨k + 1, by omega, by go_num, HR5.out, HM5.out⟩
      case measure => simp [intOf]; omega
    · have hki : ¬ (k : Int) < (n : Int) := by omega
      obtain rfl : k = n := by omega
      have HR5 : Hid (Row wr (fun k => w.heap.size ≤ k) 65 7 (.slice a5 k c5) k (MsgV.vals (pkts.map L.body))) := Lib.hid (by have := HR.out; rwa [List.take_of_length_le (by rw [← HN.out]; exact Nat.le_refl _)] at this)
      go_wp2
      go_returns
      exact ⟨_, rfl, HR5.out, HM.out⟩
end Go.Proofs.Ytidkapanpieflaa
