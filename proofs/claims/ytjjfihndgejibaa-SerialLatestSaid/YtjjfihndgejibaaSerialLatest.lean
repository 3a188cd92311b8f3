/- serial.Latest and its reference over any list of numbers; the plain law of numbers near one another. -/
import Derived.Test.YtjjfihndgejibaaSerial
namespace Go.Proofs.Ytjjfihndgejibaa
open Go.RowKit
set_option linter.unusedVariables false
/-- the element at a place (0: none) -/
def nth (zs : List Int) (i : Nat) : Int := zs.getD i 0
/-- a slice value that reads as a list of integers of a kind -/
def SlI (w : World) (k : IntKind) (a : Option Addr) (zs : List Int) (cap : Nat) : Prop :=
  zs.length ≤ cap ∧ cap ≤ maxLen ∧ (zs ≠ [] → ∃ b off, a = some ⟨b, off, none⟩ ∧ b < w.heap.size ∧ ∀ i, i < zs.length → w.cell? ⟨b, off + i, none⟩ = some (.int k (nth zs i)))
theorem SlI.keep {w w' : World} {k : IntKind} {a : Option Addr} {zs : List Int} {cap : Nat} (h : SlI w k a zs cap) (hb : Below w.heap.size w w') : SlI w' k a zs cap := by
  refine ⟨h.1, h.2.1, fun hz => ?_⟩
  obtain ⟨b, off, ha, hlt, hc⟩ := h.2.2 hz
  exact ⟨b, off, ha, Nat.lt_of_lt_of_le hlt hb.size, fun i hi => (hb.cell (p := ⟨b, off + i, none⟩) hlt).trans (hc i hi)⟩
theorem SlI.of_owns {w : World} {base : Nat} {e : TypeId} {k : IntKind} {v : Value} {n : Nat} {zs : List Int} (h : w.ownsRow base e 1 v n (zs.map (.int k))) :
    ∃ a cap, v = .slice a zs.length cap ∧ SlI w k a zs cap ∧ n = zs.length := by
  have hn : n = zs.length := by have := h.1; simp at this; omega
  rcases h.2 with ⟨rfl, h0⟩ | ⟨g, cap, cur, rfl, hg, hh, hc, hm, hs, ht⟩
  · have : zs = [] := List.eq_nil_of_length_eq_zero (by omega)
    subst this
    exact ⟨none, 0, rfl, ⟨Nat.le_refl _, by unfold maxLen; omega, fun h => absurd rfl h⟩, hn⟩
  · refine ⟨_, cap, by rw [hn], ⟨by omega, hm, fun _ => ⟨g, 0, rfl, (Array.getElem?_eq_some_iff.1 hh).1, fun i hi => ?_⟩⟩, hn⟩
    have := h.cells (g := g) rfl i (.int k (nth zs i)) (by simp [nth, List.getElem?_map, List.getD, List.getElem?_eq_getElem hi])
    rw [← this]; congr 1; unfold Addr.add; split <;> simp_all
/-- the latest of the first k numbers of a list -/
def Sr.latest (zs : List Int) (k : Nat) : Int := (zs.take k).foldl (fun o n => if 0 < Sr.gap o n then n else o) (nth zs 0)
theorem Sr.latest_succ (zs : List Int) (k : Nat) (h : k < zs.length) : Sr.latest zs (k + 1) = if 0 < Sr.gap (Sr.latest zs k) (nth zs k) then nth zs k else Sr.latest zs k := by
  unfold Sr.latest
  rw [List.take_add_one, List.foldl_append]
  simp [nth, List.getD, List.getElem?_eq_getElem h]
theorem Sr.gap_self (a : Int) : Sr.gap a a = 0 := by unfold Sr.gap; simp
theorem Sr.latest_zero (zs : List Int) : Sr.latest zs 0 = nth zs 0 := by simp [Sr.latest]
theorem Sr.latest_one (zs : List Int) (h : 0 < zs.length) : Sr.latest zs 1 = nth zs 0 := by
  rw [Sr.latest_succ zs 0 h, Sr.latest_zero, Sr.gap_self]; simp
def U32s (zs : List Int) : Prop := ∀ i, 0 ≤ nth zs i ∧ nth zs i < 4294967296
theorem Sr.latest_bd (zs : List Int) (h : U32s zs) (k : Nat) (hk : k ≤ zs.length) : 0 ≤ Sr.latest zs k ∧ Sr.latest zs k < 4294967296 := by
  induction k with
  | zero => rw [Sr.latest_zero]; exact h 0
  | succ k ih => rw [Sr.latest_succ zs k (by omega)]; split; exact h k; exact ih (by omega)
theorem Latest_any (a : Option Addr) (zs : List Int) (cap : Nat) (w : World) (hs : SlI w .u32 a zs cap) :
    Calls Try.prog 15 #[.slice a zs.length cap] w fun e w' => e = .returned (.tuple #[.int .u32 (if zs.length = 0 then 0 else Sr.latest zs zs.length), .bool (decide (0 < zs.length))]) ∧ w = w' := by
  obtain ⟨h1, h2, h3⟩ := hs
  unfold maxLen at h2
  by_cases h0 : zs.length = 0
  · have e0 : zs = [] := List.eq_nil_of_length_eq_zero h0
    subst e0
    go_enter Try.func15, Try.ntmps15
    go_wp2
    go_ret2
    exact ⟨rfl, rfl⟩
  · obtain ⟨b, off, rfl, hlt, hc⟩ := h3 (by intro e; subst e; simp at h0)
    have hc0 := hc 0 (by omega)
    simp only [Nat.add_zero] at hc0
    have hl0 : (((zs.length : Int)) == 0) = false := by simp; intro e; subst e; simp at h0
    have hpos : 0 < zs.length := by omega
    have H3 := Lib.hid hc
    clear h3 hc
    go_enter Try.func15, Try.ntmps15
    go_wp2
    go_loop [4, 15] (fun o i => ∃ k : Nat, k ≤ zs.length ∧ i = .int .i64 k ∧ o = .int .u32 (Sr.latest zs k)) (fun _ i => zs.length - (intOf i).toNat)
    case atStart => exact ⟨0, Nat.zero_le _, rfl, by rw [Sr.latest_zero]⟩
    case round =>
      obtain ⟨k, hk, rfl, rfl⟩ := hrel
      by_cases hlt2 : k < zs.length
      · have hck := H3.out k hlt2
        have hS := Lib.hid (Sr.latest_succ zs k hlt2)
        generalize Sr.latest zs k = o at *
        by_cases hg : 0 < Sr.gap o (nth zs k)
        · generalize nth zs k = x at *
          go_wp2_with (go_at_call 17; refine (gap_any _ _ _).mono ?_; rintro e w' ⟨rfl, rfl⟩)
          go_round
          case rel => exact ⟨k + 1, by omega, by go_num, by rw [hS.out, if_pos hg]⟩
          case measure => simp [intOf]; omega
        · generalize nth zs k = x at *
          go_wp2_with (go_at_call 17; refine (gap_any _ _ _).mono ?_; rintro e w' ⟨rfl, rfl⟩)
          go_round
          case rel => exact ⟨k + 1, by omega, by go_num, by rw [hS.out, if_neg (by omega)]⟩
          case measure => simp [intOf]; omega
      · have : k = zs.length := by omega
        go_wp2
        go_ret2
        exact ⟨rfl, rfl⟩
theorem refLatest_any (a : Option Addr) (zs : List Int) (cap : Nat) (w : World) (hs : SlI w .u32 a zs cap) (hz : U32s zs) (h0 : 0 < zs.length) :
    Calls Try.prog 16 #[.slice a zs.length cap] w fun e w' => e = .returned (.int .u32 (Sr.latest zs zs.length)) ∧ w = w' := by
  obtain ⟨h1, h2, h3⟩ := hs
  unfold maxLen at h2
  obtain ⟨b, off, rfl, hlt, hc⟩ := h3 (by intro e; subst e; simp at h0)
  have hc0 := hc 0 (by omega)
  simp only [Nat.add_zero] at hc0
  have H3 := Lib.hid hc
  clear h3 hc
  go_enter Try.func16, Try.ntmps16
  go_wp2
  go_loop [3, 4] (fun o i => ∃ k : Nat, 1 ≤ k ∧ k ≤ zs.length ∧ i = .int .i64 k ∧ o = .int .u32 (Sr.latest zs k)) (fun _ i => zs.length - (intOf i).toNat)
  case atStart => exact ⟨1, by omega, by omega, rfl, by rw [Sr.latest_one zs h0]⟩
  case round =>
    obtain ⟨k, hk1, hk, rfl, rfl⟩ := hrel
    by_cases hlt2 : k < zs.length
    · have hck := H3.out k hlt2
      have hS := Lib.hid (Sr.latest_succ zs k hlt2)
      obtain ⟨lb1, lb2⟩ := Sr.latest_bd zs hz k hk
      obtain ⟨xb1, xb2⟩ := hz k
      have hzz := Lib.hid hz
      clear hz
      generalize Sr.latest zs k = o at *
      by_cases hg : 0 < Sr.gap o (nth zs k)
      · generalize nth zs k = x at *
        go_wp2_with (go_at_call 8; refine (refGap_any _ _ (by omega) (by omega) (by omega) (by omega) _).mono ?_; rintro e w' ⟨rfl, rfl⟩)
        go_round
        case rel => exact ⟨k + 1, by omega, by omega, by go_num, by rw [hS.out, if_pos hg]⟩
        case measure => simp [intOf]; omega
      · generalize nth zs k = x at *
        go_wp2_with (go_at_call 8; refine (refGap_any _ _ (by omega) (by omega) (by omega) (by omega) _).mono ?_; rintro e w' ⟨rfl, rfl⟩)
        go_round
        case rel => exact ⟨k + 1, by omega, by omega, by go_num, by rw [hS.out, if_neg (by omega)]⟩
        case measure => simp [intOf]; omega
    · have : k = zs.length := by omega
      go_wp2
      go_ret
      exact ⟨rfl, rfl⟩
end Go.Proofs.Ytjjfihndgejibaa
