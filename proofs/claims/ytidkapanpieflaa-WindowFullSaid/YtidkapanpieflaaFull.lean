/- WindowFull: the walk. -/
import Derived.Test.YtidkapanpieflaaLives
namespace Go.Proofs.Ytidkapanpieflaa
open Go.RowKit
set_option linter.unusedVariables false
set_option linter.unusedSimpArgs false
structure FullAt (w wr : World) (p j : Nat) (c : Nat → Nat) (s : Snd) : Prop where
  col : Col w wr c
  at_ : SndAt wr p (fun k => c k = 1) s
  base : s.base = 0
  wide : s.wide = 64
  sent : s.sent = 0
  len : s.bodies.length = min j 4096
theorem FullAt.next {w wr w' : World} {p j : Nat} {c : Nat → Nat} {s : Snd} {b : ByteArray} (h : FullAt w wr p j c s) (hs : SndAt w' p (fun k => c k = 1 ∨ wr.heap.size ≤ k) (s.push b)) (hm : Mod (fun k => c k = 1) wr w') : FullAt w w' p (j + 1) (paint c wr w' 1) (s.push b) := by
  have hl := h.len
  refine ⟨h.col.step hm (by decide) 1, hs.mine h.col (by decide), ?_, ?_, ?_, ?_⟩
  · unfold Snd.push; split <;> exact h.base
  · unfold Snd.push; split <;> exact h.wide
  · unfold Snd.push; split <;> exact h.sent
  · unfold Snd.push; split
    · show (s.bodies ++ [b]).length = _; rw [List.length_append]; simp; omega
    · omega
theorem FullAt.news {w wr : World} {p j : Nat} {c : Nat → Nat} {s : Snd} (h : FullAt w wr p j c s) (hj : 4090 ≤ j) : s.news.length = 64 := by
  have hl := h.len
  have hs := h.sent
  have hw := h.wide
  unfold Snd.news Snd.pkts
  simp
  omega
theorem FullAt.acked {w wr : World} {p j : Nat} {c : Nat → Nat} {s : Snd} (h : FullAt w wr p j c s) (hj : 4090 ≤ j) : s.send.acked 64 = 64 := by
  have hl := h.len
  have hw := h.wide
  have hb := h.base
  unfold Snd.acked Snd.send Sr.gap
  simp only [hb, hw]
  rw [if_pos (by omega), if_pos (by simp <;> omega)]
  rfl
theorem FullAt.freed {w wr : World} {p j : Nat} {c : Nat → Nat} {s : Snd} (h : FullAt w wr p j c s) (hj : 4090 ≤ j) : (s.send.ack 64).full = true := by
  have hl := h.len
  unfold Snd.ack
  rw [h.acked hj]
  unfold Snd.full Snd.send
  simp [hl]
  omega
theorem u8_bd {n : Int} (h : (Lit.int .u8 n).wf = true) : 0 ≤ n ∧ n < 256 := by
  simp [Lit.wf, IntKind.min, IntKind.max, IntKind.bits, IntKind.signed] at h
  omega
theorem full_walk (a0 : Int) (w0 : (Lit.int .u8 a0).wf = true) (w : World) :
    Calls Try.prog 3 #[.int .u8 a0] w fun e w' => e = .returned (.bool true) ∧ Mod (fun _ => False) w w' := by
  obtain ⟨b00, b01⟩ : 0 ≤ a0 ∧ a0 < 256 := u8_bd w0
  go_enter Try.func3, Try.ntmps3
  go_wp2_with fail
  refine (NewSender_any 0 64 _ (by decide) (by decide)).mono ?_; rintro e w1 ⟨p, rfl, hs, hm⟩
  have HF : Hid (FullAt w w1 p 0 (paint (fun _ => 0) w w1 1) ⟨0, [], 0, Snd.width 64⟩) := Lib.hid ⟨(Col.start w).still hm 1, hs.born (fun _ => 0) 1, rfl, by decide, rfl, rfl⟩
  clear hs hm
  obtain ⟨k, hk⟩ : ∃ k : Nat, 4090 + a0 % 12 = (k : Int) := ⟨(4090 + a0 % 12).toNat, by omega⟩
  have hk0 : 4090 ≤ k := by omega
  have hk1 : k ≤ 4101 := by omega
  have hm : a0.tmod 12 = a0 % 12 := Int.tmod_eq_emod_of_nonneg b00
  have e1 : IntKind.u8.wrap (a0.tmod 12) = a0 % 12 := by rw [hm]; exact IntWalk.u8_in _ (by omega)
  have e2 : IntKind.i64.wrap (a0 % 12) = a0 % 12 := IntWalk.i64_in _ (by omega)
  have e3 : IntKind.i64.wrap (4090 + a0 % 12) = (k : Int) := by rw [hk]; exact IntWalk.i64_in _ (by omega)
  go_wp2_with fail
  clear hm e1 e2 e3 b00 b01 hk
  go_loopw [5] (fun i wr => ∃ (j : Nat) (c : Nat → Nat) (s : Snd), j ≤ k ∧ i = .int .i64 j ∧ FullAt w wr p j c s) (fun i _ => k - (intOf i).toNat)
  case atStart => exact ⟨0, _, _, Nat.zero_le _, rfl, HF.out⟩
  case round =>
    obtain ⟨j, c, s, hj, rfl, hF⟩ := hrel
    have HF := Lib.hid hF
    by_cases hlt : j < k
    · have hfull : s.full = decide ((j : Int) < 4096) := by
        have := hF.len
        unfold Snd.full
        congr 1
        apply propext
        omega
      clear hF
      go_wp2_with fail
      refine (Push_any p _ s ⟨#[120]⟩ _ HF.out.at_).mono ?_; rintro e w2 ⟨rfl, hs, hm⟩
      have HF2 := Lib.hid (HF.out.next hs hm)
      clear hs hm
      rw [hfull]
      by_cases h4 : (j : Int) < 4096
      · have hd : decide ((j : Int) < 4096) = true := decide_eq_true h4
        rw [hd]
        go_wp2
        go_roundw
        case rel => exact ⟨j + 1, _, _, by omega, by go_num, HF2.out⟩
        case measure => simp [intOf]; omega
      · have hd : decide ((j : Int) < 4096) = false := decide_eq_false h4
        rw [hd]
        go_wp2
        go_roundw
        case rel => exact ⟨j + 1, _, _, by omega, by go_num, HF2.out⟩
        case measure => simp [intOf]; omega
    · have hn := Lib.hid (hF.news (by omega))
      have ha := Lib.hid (hF.acked (by omega))
      have hf := Lib.hid (hF.freed (by omega))
      clear hF
      go_wp2_with fail
      refine (Send_any p _ s _ HF.out.at_).mono ?_; rintro e w2 ⟨v, rfl, hv, hs, hm⟩
      rw [hn.out] at hv
      obtain ⟨ad, cap, rfl, hnv, hcv, hgv⟩ := hv.form
      obtain ⟨c2, hC, hs⟩ : ∃ c', Col w w2 c' ∧ SndAt w2 p (fun k => c' k = 1) s.send := ⟨_, HF.out.col.step hm (by decide) 3, hs.stay HF.out.col (by decide) 3⟩
      have HC := Lib.hid hC
      have HS := Lib.hid hs
      clear hv hm hC hs hgv
      go_wp2_with fail
      refine (Ack_any p _ s.send 64 _ HS.out (by decide) (by decide)).mono ?_; rintro e w3 ⟨rfl, hs, hm⟩
      obtain ⟨c3, hC, hs⟩ : ∃ c', Col w w3 c' ∧ SndAt w3 p (fun k => c' k = 1) (s.send.ack 64) := ⟨_, HC.out.step hm (by decide) 1, hs.mine HC.out (by decide)⟩
      clear HC HS
      have HC := Lib.hid hC
      have HS := Lib.hid hs
      clear hm hC hs
      rw [ha.out]
      go_wp2_with fail
      refine (Push_any p _ (s.send.ack 64) ⟨#[121]⟩ _ HS.out).mono ?_; rintro e w4 ⟨rfl, hs, hm⟩
      have HM := Lib.hid (HC.out.step hm (by decide) 1).mod
      clear hs hm
      rw [hf.out]
      go_wp2_with fail
      refine (lives28_any _).mono ?_; rintro e w5 ⟨rfl, hm⟩
      have HM5 := Lib.hid hm
      clear hm
      go_wp2
      go_ret
      exact ⟨rfl, HM.out.trans HM5.out fun _ f => f.elim⟩
end Go.Proofs.Ytidkapanpieflaa
