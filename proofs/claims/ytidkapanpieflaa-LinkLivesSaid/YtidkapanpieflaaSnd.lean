/- The sender of package window: what it holds ('SndAt'), and what its methods do. -/
import Derived.Test.YtidkapanpieflaaMem
import Derived.Test.YtidkapanpieflaaSerial
namespace Go.Proofs.Ytidkapanpieflaa
open Go.RowKit
set_option linter.unusedVariables false
theorem Try.elStr : Elem Try.prog 39 9 (.string ByteArray.empty) 1 16 := .mk' Try.underlying39 (by kernel_rfl) rfl
theorem Try.elPkt : Elem Try.prog 26 36 (.agg #[.int .u32 0, .string ByteArray.empty]) 2 24 := .mk' Try.underlying26 (by kernel_rfl) rfl
/-- a sender: the number of the first open body, the open bodies, how many were sent, how many may be -/
structure Snd where
  base : Int
  bodies : List ByteArray
  sent : Nat
  wide : Nat
structure Snd.Ok (s : Snd) : Prop where
  b0 : 0 ≤ s.base
  b1 : s.base < 4294967296
  l1 : s.bodies.length ≤ 4096
  s1 : s.sent ≤ s.bodies.length
  s2 : s.sent ≤ s.wide
  w0 : 1 ≤ s.wide
  w1 : s.wide ≤ 64
def SndAt (w : World) (p : Nat) (f : Nat → Prop) (s : Snd) : Prop :=
  s.Ok ∧ f p ∧ ∃ v, w.heap[p]? = some (.cells #[.int .u32 s.base, v, .int .i64 s.sent, .int .i64 s.wide] 95 (0, 0)) ∧ Row w f 9 1 v s.bodies.length (s.bodies.map .string)
theorem SndAt.keep {w w' : World} {F f : Nat → Prop} {p : Nat} {s : Snd} (h : SndAt w p f s) (hm : Mod F w w') (hd : ∀ k, f k → ¬ F k) : SndAt w' p f s := by
  obtain ⟨h1, h2, v, h3, h4⟩ := h
  exact ⟨h1, h2, v, hm.keep h3 (hd p h2), h4.keep hm hd⟩
theorem SndAt.clip {w : World} {f : Nat → Prop} {p : Nat} {s : Snd} (h : SndAt w p f s) : SndAt w p (fun k => f k ∧ k < w.heap.size) s := by
  obtain ⟨h1, h2, v, h3, h4⟩ := h
  exact ⟨h1, ⟨h2, lt_of_block h3⟩, v, h3, ⟨h4.1, fun g hg => ⟨h4.2 g hg, h4.lt g hg⟩⟩⟩
def Snd.width (n : Int) : Nat := if n < 1 then 1 else if 64 < n then 64 else n.toNat
theorem width_any (n : Int) (w : World) : Calls Try.prog 63 #[.int .i64 n] w fun e w' => e = .returned (.int .i64 (Snd.width n)) ∧ w = w' := by
  go_enter Try.func63, Try.ntmps63
  go_wp2
  all_goals
    go_ret
    refine ⟨ret_int ?_, rfl⟩
    unfold Snd.width
    split <;> (try split) <;> (try split at *) <;> omega
theorem NewSender_any (first wide : Int) (w : World) (h0 : 0 ≤ first) (h1 : first < 4294967296) :
    Calls Try.prog 12 #[.int .u32 first, .int .i64 wide] w fun e w' => ∃ p, e = .returned (.pointer (some ⟨p, 0, none⟩)) ∧ SndAt w' p (fun k => w.heap.size ≤ k) ⟨first, [], 0, Snd.width wide⟩ ∧ Mod (fun _ => False) w w' := by
  go_enter Try.func12, Try.ntmps12
  go_wp2_with (go_at_call 63; refine (width_any _ _).mono ?_; rintro e w' ⟨rfl, rfl⟩)
  go_ret
  exact ⟨_, rfl, ⟨⟨h0, h1, by simp, by simp, by simp, by show 1 ≤ Snd.width wide; unfold Snd.width; split <;> (try split) <;> omega, by show Snd.width wide ≤ 64; unfold Snd.width; split <;> (try split) <;> omega⟩, Nat.le_refl _, _, allocNew _ _, Row.nil _ _ _ _⟩, (Mod.refl _ _).alloc _⟩
def Snd.push (s : Snd) (b : ByteArray) : Snd := if s.bodies.length < 4096 then { s with bodies := s.bodies ++ [b] } else s
def Snd.full (s : Snd) : Bool := decide (s.bodies.length < 4096)
set_option maxRecDepth 100000 in
theorem Push_any (p : Nat) (f : Nat → Prop) (s : Snd) (b : ByteArray) (w : World) (h : SndAt w p f s) :
    Calls Try.prog 13 #[.pointer (some ⟨p, 0, none⟩), .string b] w fun e w' => e = .returned (.bool s.full) ∧ SndAt w' p (fun k => f k ∨ w.heap.size ≤ k) (s.push b) ∧ Mod f w w' := by
  obtain ⟨hok, hp, v, hb, hr⟩ := h
  obtain ⟨a, cap, rfl, hn, hc, hg⟩ := hr.form
  have c1 : w.cell? ⟨p, 1, none⟩ = some (.slice a s.bodies.length cap) := cellOf hb 1
  have f1 : w.frozen? ⟨p, 1, none⟩ = false := freeOf hb 1
  have HR := Lib.hid hr
  have HB := Lib.hid hb
  clear hr hb hg
  by_cases hl : s.bodies.length < 4096
  · have hd : decide ((4096 : Int) ≤ (s.bodies.length : Int)) = false := by simp; omega
    have hcap : cap ≤ 9223372036854775807 := by unfold maxLen at hc; omega
    have ef : s.full = true := by unfold Snd.full; simpa using hl
    have ep : s.push b = { s with bodies := s.bodies ++ [b] } := by unfold Snd.push; rw [if_pos hl]
    have EP := Lib.hid ep
    clear ep
    go_enter Try.func13, Try.ntmps13
    go_wp2_with (at_builtin; refine wpList_append_one Try.elStr rfl (.tmp 19) (.tmp 21) rfl #[.string b] f _ _ _ (HR.out.alloc _) _ (allocNew _ _) rfl rfl rfl (by simp [Value.oneCell']) (by omega) (by unfold maxLen; omega) ?_)
    intro v1 w1 hr1 hm1
    obtain ⟨a1, cap1, rfl, hn1, hc1, hg1⟩ := hr1.form
    clear hg1
    replace hm1 := Mod.allocThen hm1
    have hb1 := hm1.keep HB.out (HR.out.ne HB.out (by decide))
    have c2 : w1.cell? ⟨p, 1, none⟩ = some (.slice a s.bodies.length cap) := cellOf hb1 1
    have f2 : w1.frozen? ⟨p, 1, none⟩ = false := freeOf hb1 1
    have HB1 := Lib.hid hb1
    have HR1 := Lib.hid hr1
    have HM1 := Lib.hid hm1
    have lt := lt_of_block hb1
    clear hr1 hm1 hb1
    go_wp2
    go_ret
    refine ⟨by rw [ef]; rfl, ?_, (HM1.out.row HR.out).setCell (.inl hp) _⟩
    rw [EP.out]
    refine ⟨⟨hok.b0, hok.b1, by simp; omega, by have := hok.s1; simp; omega, hok.s2, hok.w0, hok.w1⟩, .inl hp, _, setOf HB1.out 1 _, ?_⟩
    have := (HR1.out.mono (f' := fun k => f k ∨ w.heap.size ≤ k) fun k hk => hk.imp id (fun h => by omega)).setFar (p := ⟨p, 1, none⟩) (HR1.out.ne HB1.out (by decide)) (.slice a1 (s.bodies.length + 1) cap1)
    simpa using this
  · have hd : decide ((4096 : Int) ≤ (s.bodies.length : Int)) = true := by simp; omega
    have ef : s.full = false := by unfold Snd.full; simpa using hl
    have ep : s.push b = s := by unfold Snd.push; rw [if_neg hl]
    go_enter Try.func13, Try.ntmps13
    go_wp2
    go_ret
    refine ⟨by rw [ef]; rfl, ?_, Mod.refl _ _⟩
    rw [ep]
    exact ⟨hok, .inl hp, _, HB.out, HR.out.mono fun k hk => .inl hk⟩
/-- a packet -/
structure Pkt where
  seq : Int
  body : ByteArray
def Pkt.vals (l : List Pkt) : List Value := l.flatMap fun p => [.int .u32 p.seq, .string p.body]
theorem Pkt.vals_snoc (l : List Pkt) (p : Pkt) : Pkt.vals (l ++ [p]) = Pkt.vals l ++ [.int .u32 p.seq, .string p.body] := by simp [Pkt.vals]
/-- the body at a place -/
def Snd.at_ (s : Snd) (i : Nat) : ByteArray := s.bodies.getD i ByteArray.empty
/-- open bodies from a place on, so many, with their numbers -/
def Snd.pkts (s : Snd) (a n : Nat) : List Pkt := (List.range n).map fun j => ⟨Sr.add s.base ((a + j : Nat) : Int), s.at_ (a + j)⟩
theorem Snd.pkts_succ (s : Snd) (a n : Nat) : s.pkts a (n + 1) = s.pkts a n ++ [⟨Sr.add s.base ((a + n : Nat) : Int), s.at_ (a + n)⟩] := by simp [Snd.pkts, List.range_succ]
set_option maxRecDepth 100000 in
theorem packets_any (p : Nat) (f : Nat → Prop) (s : Snd) (a b : Nat) (w : World) (h : SndAt w p f s) (hab : a ≤ b) (hbl : b ≤ s.bodies.length) :
    Calls Try.prog 64 #[.pointer (some ⟨p, 0, none⟩), .int .i64 a, .int .i64 b] w fun e w' => ∃ v, e = .returned v ∧ Row w' (fun k => w.heap.size ≤ k) 36 2 v (b - a) (Pkt.vals (s.pkts a (b - a))) ∧ Mod (fun _ => False) w w' := by
  obtain ⟨hok, hp, v, hb, hr⟩ := h
  obtain ⟨ad, cap, rfl, hn, hc, hg⟩ := hr.form
  have c0 : w.cell? ⟨p, 0, none⟩ = some (.int .u32 s.base) := cellOf hb 0
  have c1 : w.cell? ⟨p, 1, none⟩ = some (.slice ad s.bodies.length cap) := cellOf hb 1
  have hlen := hok.l1
  have HR := Lib.hid hr
  have HG := Lib.hid hg
  clear hr hg
  go_enter Try.func64, Try.ntmps64
  go_wp2
  go_loopw [7, 8] (fun v i wr => ∃ k : Nat, a ≤ k ∧ k ≤ b ∧ i = .int .i64 k ∧ Row wr (fun x => w.heap.size ≤ x) 36 2 v (k - a) (Pkt.vals (s.pkts a (k - a))) ∧ Mod (fun _ => False) w wr) (fun _ i _ => b - (intOf i).toNat)
  case atStart => exact ⟨a, Nat.le_refl _, hab, rfl, by simp [Snd.pkts, Pkt.vals]; exact Row.nil _ _ _ _, Mod.refl _ _⟩
  case round =>
    obtain ⟨k, hk1, hk2, rfl, hrow, hmod⟩ := hrel
    obtain ⟨ao, co, rfl, hno, hco, hgo⟩ := hrow.form
    by_cases hlt : k < b
    · obtain ⟨g, rfl, hfg, hlg, hcg⟩ := HG.out (by omega)
      have c2 : w.cell? ⟨g, k, none⟩ = some (.string (s.at_ k)) := hcg k _ (by simp [Snd.at_, List.getD, List.getElem?_eq_getElem (show k < s.bodies.length by omega)])
      have d0 := hmod.cell (fun f => f) c0
      have d1 := hmod.cell (fun f => f) c1
      have d2 := hmod.cell (fun f => f) c2
      have n0 : ∀ q, q < w.heap.size → ¬ (Value.slice ao (k - a) co).ownBlock = some q := fun q hq e => by have := hrow.2 q e; omega
      have n1 := n0 p (lt_of_block hb)
      have n2 := n0 g hlg
      have hki : (k : Int) < (s.bodies.length : Int) := by omega
      have HRW := Lib.hid hrow
      have N := Lib.hid n0
      have HB := Lib.hid hb
      clear hrow n0 hgo hb hcg c0 c1 c2
      go_wp2
      go_region_held3 (fun w' : World => w'.cell? ⟨p, 0, none⟩ = some (.int .u32 s.base) ∧ w'.cell? ⟨p, 1, none⟩ = some (.slice (some ⟨g, 0, none⟩) s.bodies.length cap) ∧ w'.cell? ⟨g, k, none⟩ = some (.string (s.at_ k))) (first | exact ⟨d0, d1, d2⟩ | exact ⟨allocCell _ d0, allocCell _ d1, allocCell _ d2⟩ | exact ⟨hm1.cell n1 d0, hm1.cell n1 d1, hm1.cell n2 d2⟩) (first | (go_at_call 68; refine (Add_any _ _ (by omega) (by omega) _).mono ?_; rintro e w' ⟨rfl, rfl⟩) | (refine step_append_one Try.elPkt rfl (.tmp 15) (.tmp 30) rfl #[.int .u32 (Sr.add s.base k), .string (s.at_ k)] _ _ _ _ (HRW.out.alloc _).drew wr.heap.size (allocNew wr _) rfl rfl rfl (by simp [Value.oneCell']) (by omega) (by unfold maxLen; omega) ?_; intro v1 w1 hr1 hm1; replace hm1 := Mod.allocDrew hm1; obtain ⟨a1, cap1, rfl, hn1, hc1, hg1⟩ := hr1.form))
      have HM1 := Lib.hid hm1
      have HR1 := Lib.hid hr1
      clear hm1 hr1 hg1 d0 d1 d2
      go_wp2
      go_roundw
      case rel =>
        refine ⟨k + 1, by omega, by omega, by go_num, ?_, hmod.trans HM1.out fun x hx => .inr (HRW.out.2 x hx)⟩
        have e1 : k + 1 - a = k - a + 1 := by omega
        rw [e1, Snd.pkts_succ, Pkt.vals_snoc, show a + (k - a) = k by omega]
        exact HR1.out.mono fun x hx => hx.elim id (fun h => Nat.le_trans hmod.size (allocLe h))
      case measure => simp [intOf]; omega
    · have : k = b := by omega
      subst this
      go_wp2
      go_ret
      exact ⟨_, rfl, hrow, hmod⟩
/-- Send -/
def Snd.send (s : Snd) : Snd := { s with sent := min s.bodies.length s.wide }
def Snd.news (s : Snd) : List Pkt := s.pkts s.sent (min s.bodies.length s.wide - s.sent)
theorem send_end (p : Nat) (f : Nat → Prop) (s : Snd) (m : Nat) (w : World) (ad : Option Addr) (cap : Nat) (hok : s.Ok) (hp : f p) (hr : Row w f 9 1 (.slice ad s.bodies.length cap) s.bodies.length (s.bodies.map .string))
    (hb : w.heap[p]? = some (.cells #[.int .u32 s.base, .slice ad s.bodies.length cap, .int .i64 s.sent, .int .i64 s.wide] 95 (0, 0))) (h1 : s.sent ≤ m) (h2 : m ≤ s.bodies.length) (h3 : m ≤ s.wide) :
    ∃ W1, (w.setCell ⟨p, 2, none⟩ (.int .i64 m)).drew = W1 ∧ SndAt W1 p f { s with sent := m } ∧ W1.cell? ⟨p, 2, none⟩ = some (.int .i64 m) ∧ Mod f w W1 := by
  have hb1 := setOf hb 2 (.int .i64 m)
  exact ⟨_, rfl, ⟨⟨hok.b0, hok.b1, hok.l1, h2, h3, hok.w0, hok.w1⟩, hp, _, hb1, hr.setFar (hr.ne hb (by decide)) _⟩, cellOf hb1 2, ((Mod.refl _ _).setCell (.inl hp) _).drew⟩
set_option maxRecDepth 100000 in
theorem Send_any (p : Nat) (f : Nat → Prop) (s : Snd) (w : World) (h : SndAt w p f s) :
    Calls Try.prog 14 #[.pointer (some ⟨p, 0, none⟩)] w fun e w' => ∃ v, e = .returned v ∧ Row w' (fun k => w.heap.size ≤ k) 36 2 v s.news.length (Pkt.vals s.news) ∧ SndAt w' p f s.send ∧ Mod f w w' := by
  obtain ⟨hok, hp, v, hb, hr⟩ := h
  obtain ⟨ad, cap, rfl, hn, hc, hg⟩ := hr.form
  have c1 : w.cell? ⟨p, 1, none⟩ = some (.slice ad s.bodies.length cap) := cellOf hb 1
  have c2 : w.cell? ⟨p, 2, none⟩ = some (.int .i64 s.sent) := cellOf hb 2
  have c3 : w.cell? ⟨p, 3, none⟩ = some (.int .i64 s.wide) := cellOf hb 3
  have f2 : w.frozen? ⟨p, 2, none⟩ = false := freeOf hb 2
  have b1 := hok.s1
  have b2 := hok.s2
  have b3 := hok.w1
  have HR := Lib.hid hr
  have HB := Lib.hid hb
  clear hr hg hb
  obtain ⟨m, hm⟩ : ∃ m, m = min s.bodies.length s.wide := ⟨_, rfl⟩
  have e1 : s.send = { s with sent := m } := by unfold Snd.send; rw [hm]
  have e2 : s.news = ({ s with sent := m } : Snd).pkts s.sent (m - s.sent) := by unfold Snd.news; rw [hm]; rfl
  have hm1 : s.sent ≤ m := by omega
  have hm2 : m ≤ s.bodies.length := by omega
  have hm3 : m ≤ s.wide := by omega
  have HM := Lib.hid hm
  have E1 := Lib.hid e1
  have E2 := Lib.hid e2
  clear e1 e2 hm
  by_cases hlt : s.wide < s.bodies.length
  · obtain rfl : m = s.wide := by have := HM.out; omega
    go_enter Try.func14, Try.ntmps14
    go_wp2
    go_region_held3 (fun w' : World => w'.cell? ⟨p, 1, none⟩ = some (.slice ad s.bodies.length cap) ∧ w'.cell? ⟨p, 3, none⟩ = some (.int .i64 s.wide) ∧ w'.frozen? ⟨p, 2, none⟩ = false) (first | exact ⟨c1, c3, f2⟩ | exact ⟨setNe _ c1 (by simp), setNe _ c3 (by simp), setFree _ f2⟩) (fail)
    obtain ⟨W1, hW1, hs1, d2, hM1⟩ := send_end p f s _ w ad cap hok hp HR.out HB.out hm1 hm2 hm3
    rw [hW1]
    go_wp2_with fail
    refine (packets_any p f _ s.sent _ _ hs1 hm1 hm2).mono ?_; rintro e w2 ⟨v2, rfl, hr2, hM2⟩
    have HS1 := Lib.hid hs1
    have HR2 := Lib.hid hr2
    have HM2 := Lib.hid hM2
    have HMM1 := Lib.hid hM1
    clear hs1 hr2 hM2 hM1
    go_wp2
    go_ret
    refine ⟨v2, rfl, ?_, ?_, HMM1.out.trans HM2.out fun _ f => f.elim⟩
    · rw [E2.out]
      simpa [Snd.pkts] using HR2.out.mono fun k hk => Nat.le_trans HMM1.out.size hk
    · rw [E1.out]
      exact HS1.out.keep HM2.out fun _ _ f => f
  · obtain rfl : m = s.bodies.length := by have := HM.out; omega
    go_enter Try.func14, Try.ntmps14
    go_wp2
    go_region_held3 (fun w' : World => w'.cell? ⟨p, 1, none⟩ = some (.slice ad s.bodies.length cap) ∧ w'.cell? ⟨p, 3, none⟩ = some (.int .i64 s.wide) ∧ w'.frozen? ⟨p, 2, none⟩ = false) (first | exact ⟨c1, c3, f2⟩ | exact ⟨setNe _ c1 (by simp), setNe _ c3 (by simp), setFree _ f2⟩) (fail)
    obtain ⟨W1, hW1, hs1, d2, hM1⟩ := send_end p f s _ w ad cap hok hp HR.out HB.out hm1 hm2 hm3
    rw [hW1]
    go_wp2_with fail
    refine (packets_any p f _ s.sent _ _ hs1 hm1 hm2).mono ?_; rintro e w2 ⟨v2, rfl, hr2, hM2⟩
    have HS1 := Lib.hid hs1
    have HR2 := Lib.hid hr2
    have HM2 := Lib.hid hM2
    have HMM1 := Lib.hid hM1
    clear hs1 hr2 hM2 hM1
    go_wp2
    go_ret
    refine ⟨v2, rfl, ?_, ?_, HMM1.out.trans HM2.out fun _ f => f.elim⟩
    · rw [E2.out]
      simpa [Snd.pkts] using HR2.out.mono fun k hk => Nat.le_trans HMM1.out.size hk
    · rw [E1.out]
      exact HS1.out.keep HM2.out fun _ _ f => f
end Go.Proofs.Ytidkapanpieflaa
