/- The reference's receiver. -/
import Derived.Test.YtidkapanpieflaaRcvTake
import Derived.Test.YtidkapanpieflaaRefS
namespace Go.Proofs.Ytidkapanpieflaa
open Go.RowKit Go.MapKept
set_option linter.unusedVariables false
set_option linter.unusedSimpArgs false
structure RefR where
  first : Int
  wide : Nat
  n : Nat
  held : List Pkt
def RefR.rcv (s : RefR) : Rcv := ⟨Sr.add s.first s.n, s.wide, s.held⟩
structure RefR.Ok (s : RefR) : Prop where
  f0 : 0 ≤ s.first
  f1 : s.first < 4294967296
  nn : s.n ≤ 1099511627776
  r : s.rcv.Ok
def RefRAt (w : World) (p : Nat) (f : Nat → Prop) (s : RefR) : Prop :=
  s.Ok ∧ f p ∧ ∃ v, w.heap[p]? = some (.cells #[.int .u32 s.first, .int .i64 s.wide, .int .i64 s.n, v] 44 (0, 0)) ∧ Row w f 36 2 v s.held.length (Pkt.vals s.held)
theorem RefRAt.keep {w w' : World} {F f : Nat → Prop} {p : Nat} {s : RefR} (h : RefRAt w p f s) (hm : Mod F w w') (hd : ∀ k, f k → ¬ F k) : RefRAt w' p f s := by
  obtain ⟨h1, h2, v, h3, h4⟩ := h
  exact ⟨h1, h2, v, hm.keep h3 (hd p h2), h4.keep hm hd⟩
theorem RefRAt.clip {w : World} {f : Nat → Prop} {p : Nat} {s : RefR} (h : RefRAt w p f s) : RefRAt w p (fun k => f k ∧ k < w.heap.size) s := by
  obtain ⟨h1, h2, v, h3, h4⟩ := h
  exact ⟨h1, ⟨h2, lt_of_block h3⟩, v, h3, ⟨h4.1, fun g hg => ⟨h4.2 g hg, h4.lt g hg⟩⟩⟩
theorem NewR_any (first wide : Int) (w : World) (h0 : 0 ≤ first) (h1 : first < 4294967296) :
    Calls Try.prog 18 #[.int .u32 first, .int .i64 wide] w fun e w' => ∃ p, e = .returned (.pointer (some ⟨p, 0, none⟩)) ∧ RefRAt w' p (fun k => w.heap.size ≤ k) ⟨first, Snd.width wide, 0, []⟩ ∧ Mod (fun _ => False) w w' := by
  have hc := clamp_width wide
  go_enter Try.func18, Try.ntmps18
  go_wp2_with (go_at_call 66; refine (refWithinN_any _ _ _ _).mono ?_; rintro e w' ⟨rfl, rfl⟩)
  go_ret
  exact ⟨_, rfl, ⟨⟨h0, h1, Nat.zero_le _, ⟨(Sr.add_bd _ _).1, (Sr.add_bd _ _).2, Snd.width_bd wide |>.1, Snd.width_bd wide |>.2, by simp [RefR.rcv], fun p hp => by cases hp⟩⟩, Nat.le_refl _, _, allocNew _ _, Row.nil _ _ _ _⟩, (Mod.refl _ _).alloc _⟩
theorem RefNext_any (p : Nat) (f : Nat → Prop) (s : RefR) (w : World) (h : RefRAt w p f s) :
    Calls Try.prog 24 #[.pointer (some ⟨p, 0, none⟩)] w fun e w' => e = .returned (.int .u32 s.rcv.next) ∧ w.drew = w' := by
  obtain ⟨hok, hp, v, hb, hr⟩ := h
  have c0 : w.cell? ⟨p, 0, none⟩ = some (.int .u32 s.first) := cellOf hb 0
  have c2 : w.cell? ⟨p, 2, none⟩ = some (.int .i64 s.n) := cellOf hb 2
  have f0 := hok.f0
  have f1 := hok.f1
  have nn := hok.nn
  clear hb hr
  have hS : w.drew.cell? ⟨p, 0, none⟩ = some (.int .u32 s.first) ∧ w.drew.cell? ⟨p, 2, none⟩ = some (.int .i64 s.n) := ⟨c0, c2⟩
  go_enter Try.func24, Try.ntmps24
  go_wp2
  refine wp_region_plan [8] [(0, 0), (1, 0), (2, 0), (3, 1), (4, 0), (5, 0), (6, 0), (7, 1), (8, 3), (9, 0)] (fun w' : World => w'.cell? ⟨p, 0, none⟩ = some (.int .u32 s.first) ∧ w'.cell? ⟨p, 2, none⟩ = some (.int .i64 s.n)) (by kernel_rfl) (by kernel_rfl) (fun d _ _ _ _ h => by cases d <;> exact h) ?_
  repeat (first | (refine plan_skip rfl rfl ?_; simp only [List.getElem_toArray, List.getElem_cons_succ, List.getElem_cons_zero, Act.put, List.setIfInBounds_toArray, List.set_cons_zero, List.set_cons_succ]) | (refine plan_pass2 rfl rfl ?_; simp only [List.getElem_toArray, List.getElem_cons_succ, List.getElem_cons_zero, Act.put, List.setIfInBounds_toArray, List.set_cons_zero, List.set_cons_succ]) | (refine plan_pass3 rfl rfl ?_; simp only [List.getElem_toArray, List.getElem_cons_succ, List.getElem_cons_zero, Act.put, List.setIfInBounds_toArray, List.set_cons_zero, List.set_cons_succ]) | (refine plan_take (v := ?_) rfl rfl ?_ ?_; rotate_left; (focus (intro w0; go_simp; try with_reducible rfl)); simp only [List.getElem_toArray, List.getElem_cons_succ, List.getElem_cons_zero, Act.put, List.setIfInBounds_toArray, List.set_cons_zero, List.set_cons_succ]) | (refine plan_held (v := ?_) rfl rfl hS ?_ ?_; rotate_left; (focus (intro w0 hSw; (try dsimp only at hSw); go_split_ands; go_simp; try with_reducible rfl)); simp only [List.getElem_toArray, List.getElem_cons_succ, List.getElem_cons_zero, Act.put, List.setIfInBounds_toArray, List.set_cons_zero, List.set_cons_succ])  | (refine plan_skip1 rfl rfl hS ?_; simp only [List.getElem_toArray, List.getElem_cons_succ, List.getElem_cons_zero, Act.put, List.setIfInBounds_toArray, List.set_cons_zero, List.set_cons_succ]))
  (refine plan_end rfl rfl rfl fun K hK => ?_; (try simp only [List.getElem_toArray, List.getElem_cons_succ, List.getElem_cons_zero]); go_simp; refine (refAdd_any _ _ (by omega) (by omega) (by omega) (by omega) _).mono ?_; rintro e w' ⟨rfl, rfl⟩; refine hK _ _ ?_; clear hK K; try simp only [List.getElem_toArray, List.getElem_cons_succ, List.getElem_cons_zero, Act.put, List.setIfInBounds_toArray, List.set_cons_zero, List.set_cons_succ])
  repeat (first | (refine plan_skip rfl rfl ?_; simp only [List.getElem_toArray, List.getElem_cons_succ, List.getElem_cons_zero, Act.put, List.setIfInBounds_toArray, List.set_cons_zero, List.set_cons_succ]) | (refine plan_pass2 rfl rfl ?_; simp only [List.getElem_toArray, List.getElem_cons_succ, List.getElem_cons_zero, Act.put, List.setIfInBounds_toArray, List.set_cons_zero, List.set_cons_succ]) | (refine plan_pass3 rfl rfl ?_; simp only [List.getElem_toArray, List.getElem_cons_succ, List.getElem_cons_zero, Act.put, List.setIfInBounds_toArray, List.set_cons_zero, List.set_cons_succ]) | (refine plan_take (v := ?_) rfl rfl ?_ ?_; rotate_left; (focus (intro w0; go_simp; try with_reducible rfl)); simp only [List.getElem_toArray, List.getElem_cons_succ, List.getElem_cons_zero, Act.put, List.setIfInBounds_toArray, List.set_cons_zero, List.set_cons_succ]) | fail )
  refine plan_nil ?_
  go_wp2
  go_ret
  exact ⟨rfl, rfl⟩
theorem vals_get : ∀ (l : List Pkt) (j : Nat) (h : j < l.length), (Pkt.vals l)[j * 2]? = some (.int .u32 l[j].seq) ∧ (Pkt.vals l)[j * 2 + 1]? = some (.string l[j].body)
  | p :: r, 0, _ => ⟨rfl, rfl⟩
  | p :: r, j + 1, h => by
    have := vals_get r j (by simpa using h)
    have e : Pkt.vals (p :: r) = .int .u32 p.seq :: .string p.body :: Pkt.vals r := rfl
    rw [e, show (j + 1) * 2 = j * 2 + 1 + 1 by omega, show j * 2 + 1 + 1 + 1 = (j * 2 + 1) + 1 + 1 by omega]
    simpa using this
theorem vals_len (l : List Pkt) : (Pkt.vals l).length = l.length * 2 := by
  induction l with
  | nil => rfl
  | cons p r ih => simp [Pkt.vals] at *; omega
/-- the place of a packet -/
def Pkt.idx (l : List Pkt) (k : Int) : Int := match l.findIdx? (fun p => p.seq == k) with | some i => (i : Int) | none => -1
theorem Pkt.idx_at {l : List Pkt} {k : Int} {j : Nat} (hj : j < l.length) (h : l[j].seq = k) (hno : ∀ t (ht : t < l.length), t < j → l[t].seq ≠ k) : Pkt.idx l k = j := by
  unfold Pkt.idx
  have : l.findIdx? (fun p => p.seq == k) = some j := by
    rw [List.findIdx?_eq_some_iff_getElem]
    exact ⟨hj, by simpa using h, fun t ht => by simpa using hno t (by omega) ht⟩
  rw [this]
theorem Pkt.idx_none {l : List Pkt} {k : Int} (hno : ∀ t (ht : t < l.length), l[t].seq ≠ k) : Pkt.idx l k = -1 := by
  unfold Pkt.idx
  have : l.findIdx? (fun p => p.seq == k) = none := by
    rw [List.findIdx?_eq_none_iff]
    intro x hx
    obtain ⟨t, ht, rfl⟩ := List.mem_iff_getElem.1 hx
    simpa using hno t ht
  rw [this]
set_option maxRecDepth 100000 in
theorem find_any (p : Nat) (f : Nat → Prop) (s : RefR) (k : Int) (w : World) (h : RefRAt w p f s) :
    Calls Try.prog 69 #[.pointer (some ⟨p, 0, none⟩), .int .u32 k] w fun e w' => e = .returned (.int .i64 (Pkt.idx s.held k)) ∧ w = w' := by
  obtain ⟨hok, hp, v, hb, hr⟩ := h
  obtain ⟨ad, cap, rfl, hn, hc, hg⟩ := hr.form
  have c3 : w.cell? ⟨p, 3, none⟩ = some (.slice ad s.held.length cap) := cellOf hb 3
  have hlen := hok.r.len
  have hl : s.held.length ≤ 64 := hlen
  have HG := Lib.hid hg
  clear hb hr hg hlen
  go_enter Try.func69, Try.ntmps69
  go_wp2
  go_loop [5] (fun i => ∃ j : Nat, j ≤ s.held.length ∧ i = .int .i64 j ∧ ∀ t (ht : t < s.held.length), t < j → s.held[t].seq ≠ k) (fun i => s.held.length - (intOf i).toNat)
  case atStart => exact ⟨0, Nat.zero_le _, rfl, fun t _ h => by omega⟩
  case round =>
    obtain ⟨j, hj, rfl, hno⟩ := hrel
    have HNO := Lib.hid hno
    clear hno
    by_cases hlt : j < s.held.length
    · obtain ⟨g, rfl, hfg, hlg, hcg⟩ := HG.out (by omega)
      obtain ⟨x, hx⟩ : ∃ x, x = s.held[j].seq := ⟨_, rfl⟩
      have c4 : w.cell? ⟨g, j * 2, none⟩ = some (.int .u32 x) := hx ▸ hcg _ _ (vals_get s.held j hlt).1
      have HX := Lib.hid hx
      have hki : (j : Int) < (s.held.length : Int) := by omega
      clear hcg hx
      by_cases he : x = k
      · have EA := Lib.hid (Pkt.idx_at hlt (HX.out ▸ he) fun t ht h => HNO.out t ht h)
        have hbq : (x == k) = true := by simpa using he
        clear he
        go_wp2
        go_ret
        exact ⟨by rw [EA.out]; rfl, rfl⟩
      · have hbq : (x == k) = false := by simpa using he
        go_wp2
        go_round
        case rel => exact ⟨j + 1, by omega, by go_num, fun t ht h => by
          rcases Nat.lt_or_ge t j with h' | h'
          · exact HNO.out t ht h'
          · obtain rfl : t = j := by omega
            exact HX.out ▸ he⟩
        case measure => simp [intOf]; omega
    · have EA := Lib.hid (Pkt.idx_none (k := k) fun t ht => HNO.out t ht (by omega))
      go_wp2
      go_ret
      exact ⟨by rw [EA.out]; rfl, rfl⟩
end Go.Proofs.Ytidkapanpieflaa
