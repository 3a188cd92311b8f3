/- The receiver of package window: what it holds ('RcvAt'), and what its methods do. -/
import Derived.Test.YtidkapanpieflaaSnd
import Derived.Test.YtidkapanpieflaaMap
namespace Go.Proofs.Ytidkapanpieflaa
open Go.RowKit Go.MapKept
set_option linter.unusedVariables false
set_option linter.unusedSimpArgs false
def Pkt.val (p : Pkt) : Value := .agg #[.int .u32 p.seq, .string p.body]
theorem Try.zeroPkt : ∀ w : World, (zeroValue 36).run Try.prog w = .ok (.agg #[.int .u32 0, .string ByteArray.empty]) w := fun w => by kernel_rfl
/-- a receiver: the number that is waited for, how many may be held, and those that are -/
structure Rcv where
  next : Int
  wide : Nat
  held : List Pkt
def Rcv.map (l : List Pkt) : List (Int × Value) := l.map fun p => (p.seq, p.val)
/-- the first packet of a number -/
def Pkt.find (l : List Pkt) (k : Int) : Option Pkt := l.find? fun p => p.seq == k
def Pkt.del : List Pkt → Int → List Pkt
  | [], _ => []
  | p :: r, k => if p.seq = k then r else p :: Pkt.del r k
theorem mget_map (l : List Pkt) (k : Int) : mget (Rcv.map l) k = (Pkt.find l k).map Pkt.val := by
  induction l with
  | nil => rfl
  | cons p r ih =>
    by_cases h : p.seq = k
    · simp [mget, Rcv.map, Pkt.find, h]
    · simpa [mget, Rcv.map, Pkt.find, h] using ih
theorem mdel_map (l : List Pkt) (k : Int) : mdel (Rcv.map l) k = Rcv.map (Pkt.del l k) := by
  induction l with
  | nil => rfl
  | cons p r ih =>
    by_cases h : p.seq = k
    · simp [mdel, Rcv.map, Pkt.del, h]
    · simpa [mdel, Rcv.map, Pkt.del, h] using ih
theorem mput_map (l : List Pkt) (p : Pkt) (h : Pkt.find l p.seq = none) : mput (Rcv.map l) p.seq p.val = Rcv.map (l ++ [p]) := by
  induction l with
  | nil => rfl
  | cons q r ih =>
    by_cases hq : q.seq = p.seq
    · simp [Pkt.find, hq] at h
    · have : Pkt.find r p.seq = none := by simpa [Pkt.find, hq] using h
      simpa [mput, Rcv.map, hq] using ih this
theorem nodup_le : ∀ (n : Nat) (l : List Nat), l.Nodup → (∀ x ∈ l, x < n) → l.length ≤ n
  | 0, l, _, h => by
    match l with
    | [] => simp
    | a :: r => exact absurd (h a (by simp)) (by omega)
  | n + 1, l, hd, h => by
    have h1 := nodup_le n (l.erase n) (hd.erase n) (fun x hx => by
      have h2 := (hd.mem_erase_iff).1 hx
      have := h x h2.2
      have := h2.1
      omega)
    have := List.length_erase (a := n) (l := l)
    split at this <;> omega
/-- all that is held is within the window, and of different numbers -/
structure Rcv.Ok (r : Rcv) : Prop where
  n0 : 0 ≤ r.next
  n1 : r.next < 4294967296
  w0 : 1 ≤ r.wide
  w1 : r.wide ≤ 64
  nd : (r.held.map (·.seq)).Nodup
  inw : ∀ p ∈ r.held, 0 ≤ p.seq ∧ p.seq < 4294967296 ∧ (p.seq - r.next) % 4294967296 < r.wide
theorem Rcv.Ok.len {r : Rcv} (h : r.Ok) : r.held.length ≤ 64 := by
  have h1 := nodup_le r.wide (r.held.map fun p => ((p.seq - r.next) % 4294967296).toNat) (by
    have h2 := h.nd
    have hi := h.inw
    generalize r.held = l at h2 hi
    induction l with
    | nil => simp
    | cons p l ih =>
      simp only [List.map_cons, List.nodup_cons, List.mem_map, not_exists, not_and] at h2 ⊢
      refine ⟨fun q hq he => h2.1 q hq ?_, ih h2.2 fun q hq => hi q (by simp [hq])⟩
      have a := hi p (by simp)
      have b := hi q (by simp [hq])
      omega) (fun x hx => by
    obtain ⟨p, hp, rfl⟩ := List.mem_map.1 hx
    have := h.inw p hp
    omega)
  have := h.w1
  simp at h1
  omega
def RcvAt (w : World) (p : Nat) (f : Nat → Prop) (r : Rcv) : Prop :=
  r.Ok ∧ f p ∧ ∃ b, w.heap[p]? = some (.cells #[.int .u32 r.next, .int .i64 r.wide, .map (some b)] 100 (0, 0)) ∧ f b ∧ Mp w b .u32 (Rcv.map r.held)
theorem RcvAt.keep {w w' : World} {F f : Nat → Prop} {p : Nat} {r : Rcv} (h : RcvAt w p f r) (hm : Mod F w w') (hd : ∀ k, f k → ¬ F k) : RcvAt w' p f r := by
  obtain ⟨h1, h2, b, h3, h4, h5⟩ := h
  exact ⟨h1, h2, b, hm.keep h3 (hd p h2), h4, h5.keep hm (hd b h4)⟩
theorem RcvAt.clip {w : World} {f : Nat → Prop} {p : Nat} {r : Rcv} (h : RcvAt w p f r) : RcvAt w p (fun k => f k ∧ k < w.heap.size) r := by
  obtain ⟨h1, h2, b, h3, h4, h5⟩ := h
  exact ⟨h1, ⟨h2, lt_of_block h3⟩, b, h3, ⟨h4, h5.lt⟩, h5⟩
theorem Snd.width_bd (n : Int) : 1 ≤ Snd.width n ∧ Snd.width n ≤ 64 := by unfold Snd.width; split <;> (try split) <;> omega
theorem NewReceiver_any (first wide : Int) (w : World) (h0 : 0 ≤ first) (h1 : first < 4294967296) :
    Calls Try.prog 17 #[.int .u32 first, .int .i64 wide] w fun e w' => ∃ p, e = .returned (.pointer (some ⟨p, 0, none⟩)) ∧ RcvAt w' p (fun k => w.heap.size ≤ k) ⟨first, Snd.width wide, []⟩ ∧ Mod (fun _ => False) w w' := by
  have hmm := @run_makeMap Try.prog
  go_enter Try.func17, Try.ntmps17
  go_wp2_with (go_at_call 63; refine (width_any _ _).mono ?_; rintro e w' ⟨rfl, rfl⟩)
  go_ret
  refine ⟨_, rfl, ⟨⟨h0, h1, Snd.width_bd wide |>.1, Snd.width_bd wide |>.2, by simp, fun p hp => by cases hp⟩, by show w.heap.size ≤ w.heap.size + 1; omega, w.heap.size, by simpa using allocNew (w.alloc (.map #[] 0)) (.cells #[.int .u32 first, .int .i64 (Snd.width wide), .map (some w.heap.size)] 100), Nat.le_refl _, ?_⟩, ((Mod.refl _ _).alloc _).alloc _⟩
  exact (Mp.made w .u32).alloc _
theorem Next_any (p : Nat) (f : Nat → Prop) (r : Rcv) (w : World) (h : RcvAt w p f r) :
    Calls Try.prog 23 #[.pointer (some ⟨p, 0, none⟩)] w fun e w' => e = .returned (.int .u32 r.next) ∧ w = w' := by
  obtain ⟨h1, h2, b, h3, h4, h5⟩ := h
  have c0 : w.cell? ⟨p, 0, none⟩ = some (.int .u32 r.next) := cellOf h3 0
  clear h3
  go_enter Try.func23, Try.ntmps23
  go_wp2
  go_ret
  exact ⟨rfl, rfl⟩
theorem Held_any (p : Nat) (f : Nat → Prop) (r : Rcv) (w : World) (h : RcvAt w p f r) :
    Calls Try.prog 25 #[.pointer (some ⟨p, 0, none⟩)] w fun e w' => e = .returned (.int .i64 r.held.length) ∧ w = w' := by
  obtain ⟨h1, h2, b, h3, h4, h5⟩ := h
  have c2 : w.cell? ⟨p, 2, none⟩ = some (.map (some b)) := cellOf h3 2
  have hl : (Rcv.map r.held).length = r.held.length := by simp [Rcv.map]
  have hlen := fun ty => run_len_mp (P := Try.prog) (t := 98) (ty := ty) Try.underlying98 h5
  rw [hl] at hlen
  clear h3 hl
  go_enter Try.func25, Try.ntmps25
  go_wp2
  go_ret
  exact ⟨rfl, rfl⟩
end Go.Proofs.Ytidkapanpieflaa
