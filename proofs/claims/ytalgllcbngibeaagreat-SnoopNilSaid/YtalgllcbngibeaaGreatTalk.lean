/- Talks that the caller hands in: what of them can be read. -/
import Derived.Test.YtalgllcbngibeaaGreatMem
import Derived.ProofKit
import Derived.Deep.Slices
import Derived.OpenShut
namespace Go.Proofs.YtalgllcbngibeaaGreat
open Go.RowKit Go.ChangeShapes Go.WideShapes Go.ChangeAt
set_option linter.unusedVariables false
set_option linter.unusedSimpArgs false
set_option maxRecDepth 100000
theorem take_one {l : List Value} {j : Nat} {v : Value} (h : (l.drop j).take 1 = [v]) : l[j]? = some v := by
  have := congrArg (fun l => l[0]?) h
  simpa [List.getElem?_take, List.getElem?_drop] using this
section
variable {H : Type} {enc : TypeId × Value → H} {w : World} {base : Nat} {spare : Nat → Bool} {held : Bool} {fuel : Nat} {cs : List Value} {x : DataW H × List MemPlace}
/-- an address: each cell is one -/
theorem addr_one (h : DataW.trod enc Tryz.prog w base spare held fuel 24 cs = some x) : cs.length = 17 ∧ ∀ (j : Nat) (u : Value), cs[j]? = some u → u.oneCell' = true := by
  obtain ⟨xs, k, _, _, hl, hxl, hg⟩ := DataW.trod_struct Tryz.underlying24 h
  rw [show Tryz.prog.cellsOf 24 = 17 from by kernel_rfl] at hl
  match xs, hxl with
  | [y0, y1], _ =>
    have g0 : DataW.trod enc Tryz.prog w base spare held k 4 (List.take (Tryz.prog.cellsOf 4) (List.drop 0 cs)) = [y0, y1][0]? := hg 0 _ rfl
    have g1 : DataW.trod enc Tryz.prog w base spare held k 22 (List.take (Tryz.prog.cellsOf 22) (List.drop 1 cs)) = [y0, y1][1]? := hg 1 _ rfl
    rw [show Tryz.prog.cellsOf 4 = 1 from by kernel_rfl] at g0
    rw [show Tryz.prog.cellsOf 22 = 16 from by kernel_rfl] at g1
    obtain ⟨b, hb, _⟩ := DataW.trod_bool Tryz.underlying4 (x := y0) g0
    obtain ⟨zs, m, _, _, _, hzl, hz⟩ := DataW.trod_array Tryz.underlying22 (x := y1) g1
    refine ⟨hl, fun j u hu => ?_⟩
    have hj : j < 17 := by rw [← hl]; exact (List.getElem?_eq_some_iff.1 hu).1
    by_cases h0 : j = 0
    · subst h0
      have := take_one (j := 0) hb
      rw [hu] at this
      cases this
      rfl
    · have h1 := hz (j - 1) (by omega)
      rw [show Tryz.prog.cellsOf 5 = 1 from by kernel_rfl] at h1
      have : zs[j - 1]? = some (zs[j - 1]'(by omega)) := by simp [show j - 1 < zs.length by omega]
      rw [this] at h1
      obtain ⟨z, hz2, _⟩ := DataW.trod_int Tryz.underlying5 h1
      have h3 := take_one hz2
      rw [Nat.mul_one, List.getElem?_take] at h3
      split at h3
      · rw [List.getElem?_drop, show 1 + (j - 1) = j by omega, hu] at h3
        cases h3
        rfl
      · cases h3
end
/-- a row of elements of so many cells that can be read -/
def SrcOk (w : World) (sz : Nat) (more : World → (Nat → Value) → Prop) (v : Value) : Prop :=
  ∃ ad n cap, v = .slice ad n cap ∧ n ≤ cap ∧ cap ≤ maxLen ∧ (0 < n → ∃ g o, ad = some ⟨g, o, none⟩ ∧ g < w.heap.size ∧ ∀ i, i < n → ∃ c : Nat → Value, (∀ j, j < sz → w.cell? ⟨g, o + i * sz + j, none⟩ = some (c j) ∧ (c j).oneCell' = true) ∧ more w c)
theorem plain_addr {a : Addr} {w : World} {u : Value} (h : w.cell? a = some u) : ∃ g o, a = ⟨g, o, none⟩ := by
  obtain ⟨g, o, sp⟩ := a
  cases sp with
  | none => exact ⟨g, o, rfl⟩
  | some x =>
    unfold World.cell? at h
    simp at h
    split at h <;> cases h
section
variable {H : Type} {enc : TypeId × Value → H} {w : World} {fuel : Nat} {x : DataW H × List MemPlace}
theorem open_src {t e : TypeId} {sz : Nat} {more : World → (Nat → Value) → Prop} (ht : Tryz.prog.underlying t = some (.slice e)) (hce : Tryz.prog.cellsOf e = sz) (hsz : 0 < sz)
    (hel : ∀ (k : Nat) (cs : List Value) (y : DataW H × List MemPlace), DataW.trod enc Tryz.prog w 0 (fun _ => true) true k e cs = some y → cs.length = sz ∧ (∀ (j : Nat) (u : Value), cs[j]? = some u → u.oneCell' = true) ∧ more w fun j => cs.getD j undef)
    {v : Value} (h : DataW.trod enc Tryz.prog w 0 (fun _ => true) true fuel t [v] = some x) : SrcOk w sz more v := by
  rcases Go.Deep.open_slice ht h with ⟨hcs, hx⟩ | ⟨a, len, cap, m, n, D, Pl, hcs, _, hl, hm, hmm, hx, hall⟩
  · obtain rfl : v = .slice none 0 0 := by simpa using hcs
    exact ⟨none, 0, 0, rfl, Nat.le_refl _, by unfold maxLen; omega, fun h => absurd h (by omega)⟩
  · obtain rfl : v = .slice (some a) len cap := by simpa using hcs
    have hmc : m = cap := by rw [hmm]; simp
    have each : ∀ i, i < len → ∃ c : Nat → Value, (∀ j, j < sz → w.cell? (a.add (i * sz + j)) = some (c j) ∧ (c j).oneCell' = true) ∧ more w c := by
      intro i hi
      obtain ⟨cs', h1, h2⟩ := hall i (by omega)
      rw [hce] at h1
      obtain ⟨_, hlen, hcell⟩ := World.cells?_some h1
      obtain ⟨g1, g2, g3⟩ := hel _ _ _ h2
      refine ⟨fun j => cs'.getD j undef, fun j hj => ?_, g3⟩
      have hlt : j < cs'.length := by omega
      have e1 := hcell j hj
      rw [Go.Deep.add_add] at e1
      have e2 : cs'[j]? = some (cs'.getD j undef) := by simp [List.getD, hlt]
      exact ⟨by rw [e1, e2], g2 j _ e2⟩
    by_cases h0 : 0 < len
    · obtain ⟨c, hc, _⟩ := each 0 h0
      have ha := (hc 0 hsz).1
      have hsp : ∃ g o, a = ⟨g, o, none⟩ := by
        obtain ⟨g, o, sp⟩ := a
        cases sp with
        | none => exact ⟨g, o, rfl⟩
        | some x =>
          rw [Nat.zero_mul] at ha
          unfold World.cell? Addr.add at ha
          simp at ha
          split at ha <;> cases ha
      obtain ⟨g, o, rfl⟩ := hsp
      refine ⟨_, len, cap, rfl, hl, hm, fun _ => ⟨g, o, rfl, ?_, fun i hi => ?_⟩⟩
      · rcases Nat.lt_or_ge g w.heap.size with h | h
        · exact h
        · rw [addr_add] at ha; exact absurd ha (by simp [World.cell?, Array.getElem?_eq_none h])
      · obtain ⟨c, h1, h2⟩ := each i hi
        refine ⟨c, fun j hj => ?_, h2⟩
        have := h1 j hj
        rwa [addr_add, ← Nat.add_assoc] at this
    · exact ⟨_, len, cap, rfl, hl, hm, fun h => absurd h h0⟩
abbrev AddrsOk (w : World) (v : Value) : Prop := SrcOk w 17 (fun _ _ => True) v
theorem open_addrs {v : Value} (h : DataW.trod enc Tryz.prog w 0 (fun _ => true) true fuel 25 [v] = some x) : AddrsOk w v :=
  open_src Tryz.underlying25 (by kernel_rfl) (by decide) (fun k cs y hy => ⟨(addr_one hy).1, (addr_one hy).2, trivial⟩) h
/-- a record: its kind, its group, its sources -/
theorem rec_one {cs : List Value} (h : DataW.trod enc Tryz.prog w 0 (fun _ => true) true fuel 82 cs = some x) : cs.length = 19 ∧ (∀ (j : Nat) (u : Value), cs[j]? = some u → u.oneCell' = true) ∧ AddrsOk w (cs.getD 18 undef) := by
  obtain ⟨xs, k, _, _, hl, hxl, hg⟩ := DataW.trod_struct Tryz.underlying82 h
  rw [show Tryz.prog.cellsOf 82 = 19 from by kernel_rfl] at hl
  match xs, hxl with
  | [y0, y1, y2], _ =>
    have g0 : DataW.trod enc Tryz.prog w 0 (fun _ => true) true k 3 (List.take (Tryz.prog.cellsOf 3) (List.drop 0 cs)) = [y0, y1, y2][0]? := hg 0 _ rfl
    have g1 : DataW.trod enc Tryz.prog w 0 (fun _ => true) true k 24 (List.take (Tryz.prog.cellsOf 24) (List.drop 1 cs)) = [y0, y1, y2][1]? := hg 1 _ rfl
    have g2 : DataW.trod enc Tryz.prog w 0 (fun _ => true) true k 25 (List.take (Tryz.prog.cellsOf 25) (List.drop 18 cs)) = [y0, y1, y2][2]? := hg 2 _ rfl
    rw [show Tryz.prog.cellsOf 3 = 1 from by kernel_rfl] at g0
    rw [show Tryz.prog.cellsOf 24 = 17 from by kernel_rfl] at g1
    rw [show Tryz.prog.cellsOf 25 = 1 from by kernel_rfl] at g2
    obtain ⟨b, hb, _⟩ := DataW.trod_int Tryz.underlying3 (x := y0) g0
    have h1 := (addr_one (x := y1) g1).2
    have e18 : (cs.drop 18).take 1 = [cs.getD 18 undef] := by
      have : 18 < cs.length := by omega
      rw [show cs.getD 18 undef = cs[18] by simp [List.getD, this], List.drop_eq_getElem_cons this]
      rfl
    rw [e18] at g2
    have h2 := open_addrs (x := y2) g2
    refine ⟨hl, fun j u hu => ?_, h2⟩
    have hj : j < 19 := by rw [← hl]; exact (List.getElem?_eq_some_iff.1 hu).1
    by_cases h0 : j = 0
    · subst h0
      have := take_one (j := 0) hb
      rw [hu] at this
      cases this
      rfl
    · by_cases h18 : j = 18
      · subst h18
        obtain ⟨ad, n, cap, hs, _⟩ := h2
        have : cs.getD 18 undef = u := by simp [List.getD, hu]
        rw [this] at hs
        rw [hs]; rfl
      · refine h1 (j - 1) u ?_
        rw [List.getElem?_take, if_pos (by omega), List.getElem?_drop, show 1 + (j - 1) = j by omega]
        exact hu
abbrev RecsOk (w : World) (v : Value) : Prop := SrcOk w 19 (fun w c => AddrsOk w (c 18)) v
theorem open_recs {v : Value} (h : DataW.trod enc Tryz.prog w 0 (fun _ => true) true fuel 26 [v] = some x) : RecsOk w v :=
  open_src Tryz.underlying26 (by kernel_rfl) (by decide) (fun k cs y hy => rec_one hy) h
end
section
theorem SrcOk.keep {w w' : World} {sz : Nat} {more : World → (Nat → Value) → Prop} {v : Value} (h : SrcOk w sz more v) (hm : Mod (fun _ => False) w w') (hmore : ∀ c, more w c → more w' c) : SrcOk w' sz more v := by
  obtain ⟨ad, n, cap, h1, h2, h3, h4⟩ := h
  refine ⟨ad, n, cap, h1, h2, h3, fun h0 => ?_⟩
  obtain ⟨g, o, h5, h6, h7⟩ := h4 h0
  refine ⟨g, o, h5, Nat.lt_of_lt_of_le h6 hm.size, fun i hi => ?_⟩
  obtain ⟨c, h8, h9⟩ := h7 i hi
  exact ⟨c, fun j hj => ⟨hm.cell (fun f => f) (h8 j hj).1, (h8 j hj).2⟩, hmore c h9⟩
theorem AddrsOk.keep {w w' : World} {v : Value} (h : AddrsOk w v) (hm : Mod (fun _ => False) w w') : AddrsOk w' v := SrcOk.keep h hm fun _ h => h
theorem RecsOk.keep {w w' : World} {v : Value} (h : RecsOk w v) (hm : Mod (fun _ => False) w w') : RecsOk w' v := SrcOk.keep h hm fun _ h => AddrsOk.keep h hm
end
end Go.Proofs.YtalgllcbngibeaaGreat
