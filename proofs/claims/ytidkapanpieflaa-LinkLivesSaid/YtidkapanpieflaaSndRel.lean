/- The sender is what the reference's sender is: the plain laws. -/
import Derived.Test.YtidkapanpieflaaRefS2
import Derived.Test.YtidkapanpieflaaSnd2
namespace Go.Proofs.Ytidkapanpieflaa
set_option linter.unusedVariables false
def RefS.snd (x : RefS) : Snd := ⟨Sr.add x.first x.done, x.l.drop x.done, x.sent - x.done, x.wide⟩
theorem snd_full {x : RefS} (h : x.Ok) : x.snd.full = x.free := by
  unfold Snd.full RefS.free RefS.snd
  simp
theorem snd_push {x : RefS} (h : x.Ok) (b : ByteArray) : x.snd.push b = (x.push b).snd := by
  have h1 := h.d1
  have h2 := h.s1
  unfold Snd.push RefS.push
  have e : x.snd.bodies.length = x.l.length - x.done := by simp [RefS.snd]
  rw [e]
  split
  · unfold RefS.snd
    simp only
    rw [List.drop_append_of_le_length (by omega)]
  · rfl
theorem add_add (a : Int) (i j : Nat) : Sr.add (Sr.add a i) j = Sr.add a ((i + j : Nat) : Int) := by
  unfold Sr.add
  omega
theorem getD_drop (l : List ByteArray) (i j : Nat) : (l.drop i).getD j ByteArray.empty = l.getD (i + j) ByteArray.empty := by
  simp [List.getD]
theorem snd_pkts {x : RefS} (a n : Nat) : x.snd.pkts a n = x.pkts (x.done + a) n := by
  unfold Snd.pkts RefS.pkts
  apply List.map_congr_left
  intro j _
  congr 1
  · show Sr.add (Sr.add x.first x.done) _ = _
    rw [add_add, Nat.add_assoc]
  · unfold Snd.at_ RefS.at_ RefS.snd
    rw [getD_drop, Nat.add_assoc]
theorem snd_again {x : RefS} : x.snd.again = x.again := by
  unfold Snd.again RefS.again
  rw [snd_pkts]
  rfl
theorem snd_send {x : RefS} (h : x.Ok) : x.snd.send = x.send.snd := by
  have h1 := h.d1
  have h2 := h.s1
  unfold Snd.send RefS.send RefS.snd RefS.bound
  congr 1
  simp
  omega
theorem snd_news {x : RefS} (h : x.Ok) : x.snd.news = x.news := by
  have h1 := h.d1
  have h2 := h.s1
  unfold Snd.news RefS.news
  rw [snd_pkts]
  have e1 : x.done + x.snd.sent = x.sent := by show x.done + (x.sent - x.done) = _; omega
  have e2 : min x.snd.bodies.length x.snd.wide - x.snd.sent = x.bound - x.sent := by
    unfold RefS.bound RefS.snd
    simp
    omega
  rw [e1, e2]
theorem snd_acked {x : RefS} (n : Int) : x.snd.acked n = x.acked n := rfl
theorem snd_ack {x : RefS} (h : x.Ok) (n : Int) (h0 : 0 ≤ n) (h1 : n < 4294967296) : x.snd.ack n = (x.ack n).snd := by
  have d1 := h.d1
  have s1 := h.s1
  unfold Snd.ack
  rw [snd_acked]
  by_cases hz : x.acked n = 0
  · rw [if_pos hz]
    unfold RefS.ack
    rw [hz]
    rfl
  · rw [if_neg hz]
    have e : Sr.add x.first ((x.done + x.acked n : Nat) : Int) = n := by
      rw [← add_add]
      unfold RefS.acked at hz ⊢
      split
      · rename_i hle
        rw [if_pos hle] at hz
        have b0 : 0 ≤ Sr.add x.first x.done := by unfold Sr.add; omega
        have b1 : Sr.add x.first x.done < 4294967296 := by unfold Sr.add; omega
        generalize Sr.add x.first x.done = b at *
        unfold Sr.add
        unfold Sr.gap at hz hle ⊢
        split <;> simp_all <;> omega
      · rename_i hle
        rw [if_neg hle] at hz
        exact absurd rfl hz
    unfold RefS.ack RefS.snd
    simp only
    rw [e, List.drop_drop]
    congr 1
    omega
end Go.Proofs.Ytidkapanpieflaa
