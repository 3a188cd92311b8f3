/- Tables: Rows, Next: contracts. -/
import Derived.Test.YtegjamjognpdkaaGreatTabD
import Derived.Test.YtegjamjognpdkaaGreatOwnB
namespace Go.Proofs.YtegjamjognpdkaaGreat
open Go.RowKit
set_option linter.unusedVariables false
set_option linter.unusedSimpArgs false
theorem eql_ver (vb : Nat) (w : World) : (binOp .eql 67 (.pointer (some ⟨vb, 0, none⟩)) (.pointer none)).run Tryz.prog w = .ok (.bool false) w := by kernel_rfl
/-- what a node is told of whom it sends on to -/
def nextT (vs : List (Int × List TRow)) (v : Int) (x : TRow) : Option (List Int) := (hasV vs v).bind fun rs => (placeR x rs).map fun i => (rs.getD i rowNo).next
theorem VerIn.rowsAt {w : World} {g : Nat → Prop} {vb : Nat} {rs : List TRow} {rv : Value} {sv : Nat → Value} (h : VerIn w g vb rs rv sv) : w.cell? ⟨vb, 0, none⟩ = some rv := by
  rcases h.idx with h | ⟨m, _, _, h, _⟩
  · exact h.cell rfl
  · exact h.cell rfl
theorem wpList_value {P : Program} {w : World} {ops : Array Oper} {rest : List Oper} {o : Oper} {a : Act} {Q : Exit → Act → World → Prop} (hgd : o.guard = none) (v : Value) (hrun : (execOp a.eval o).run P w = .ok (.value v) w)
    (h : wpList P ops Q rest (a.put o.dst v) w) : wpList P ops Q (o :: rest) a w := by
  refine wpList_plain hgd fun K hK => ?_
  unfold Oper.wp
  rw [hrun]
  exact hK _ _ h
set_option maxRecDepth 100000 in
/-- Rows -/
theorem tRows_any {w : World} {f : Nat → Prop} {tb : Nat} {now : Int} {vs : List (Int × List TRow)} (h : TabAt w f tb now vs) (v : Int) :
    Calls Tryz.prog 16 #[.pointer (some ⟨tb, 0, none⟩), .int .u32 v] w fun e w' => ∃ u sv, e = .returned (.tuple #[u, .bool (hasV vs v).isSome]) ∧ RowsOwn w' (fun k => w.heap.size ≤ k) u ((hasV vs v).getD []) sv ∧ Mod (fun _ => False) w w' := by
  obtain ⟨mb, vbo, g, h⟩ := h
  have HO := Lib.hid (vof_any h v)
  cases hv : hasV vs v with
  | none =>
    rw [hv] at HO
    clear h
    go_enter Tryz.func16, Tryz.ntmps16
    go_wp2_with (go_at_call 32; refine HO.out.mono ?_; rintro e w' ⟨rfl, rfl⟩)
    go_ret2
    exact ⟨_, fun _ => .slice none 0 0, rfl, RowsOwn.nil _ _ _, Mod.refl _ _⟩
  | some rs =>
    rw [hv] at HO
    obtain ⟨rv, sv, hi⟩ := h.ver _ (hasV_mem hv)
    have hi' : VerIn w (g v) (vbo v) rs rv sv := hi
    have c0 := hi'.rowsAt
    have HI := Lib.hid hi'
    have hne := eql_ver (vbo v)
    clear h hi hi' hv
    go_enter Tryz.func16, Tryz.ntmps16
    go_wp2_with (go_at_call 32; refine HO.out.mono ?_; rintro e w' ⟨rfl, rfl⟩)
    refine (own_any rv rs sv _ HI.out.rows.at (goodT_le HI.out.good) (fun r hr => goodT_next HI.out.good hr)).mono ?_
    rintro e w1 ⟨u, sv', rfl, hr1, hm1⟩
    have HR1 := Lib.hid hr1
    have HM1 := Lib.hid hm1
    clear hr1 hm1
    go_wp2
    go_ret2
    exact ⟨u, sv', rfl, HR1.out, HM1.out⟩
set_option maxRecDepth 100000 in
set_option maxHeartbeats 4000000 in
/-- Next -/
theorem tNext_any {w : World} {f : Nat → Prop} {tb : Nat} {now : Int} {vs : List (Int × List TRow)} (h : TabAt w f tb now vs) (v : Int) (x : TRow) (hx : x.b.length = 16) :
    Calls Tryz.prog 33 #[.pointer (some ⟨tb, 0, none⟩), .int .u32 v, .int .i64 x.vlan, .agg (adrC x.v6 x.b).toArray, .int .i64 x.root] w fun e w' => ∃ u hs, e = .returned (.tuple #[u, .bool (nextT vs v x).isSome]) ∧ (w.heap.size ≤ hs ∧ hs ≤ w'.heap.size) ∧
      Row w' (fun k => hs ≤ k) 3 1 u ((nextT vs v x).getD []).length (ints ((nextT vs v x).getD [])) ∧ TabAt w' (fun k => (f k ∨ w.heap.size ≤ k) ∧ k < hs) tb now vs ∧ Mod f w w' := by
  obtain ⟨mb, vbo, g, h⟩ := h
  have hB := Blk.new w 25 (adrC x.v6 x.b)
  have hm0 : Mod (fun _ => False) w (w.alloc (.cells (adrC x.v6 x.b).toArray 25 (0, 0))) := (Mod.refl _ _).alloc _
  have h1 := h.keep hm0 fun k _ f => f
  have HO := Lib.hid (vof_any h1 v)
  cases hv : hasV vs v with
  | none =>
    have hnx : nextT vs v x = none := by unfold nextT; rw [hv]; rfl
    rw [hv] at HO
    rw [hnx]
    have HT : Hid (TabAt (w.alloc (.cells (adrC x.v6 x.b).toArray 25 (0, 0))) f tb now vs) := Lib.hid ⟨_, _, _, h1⟩
    have HM := Lib.hid hm0
    clear h h1 hB hm0
    go_enter Tryz.func33, Tryz.ntmps33
    go_wp2_with (go_at_call 32; refine HO.out.mono ?_; rintro e w' ⟨rfl, rfl⟩)
    go_ret2
    exact ⟨_, _, rfl, ⟨HM.out.size, Nat.le_refl _⟩, Row.nil _ _ _ _, HT.out.mono fun k hk hl => ⟨.inl hk, hl⟩, HM.out.mono fun _ f => f.elim⟩
  | some rs =>
    rw [hv] at HO
    obtain ⟨rv, sv, hi⟩ := h1.ver _ (hasV_mem hv)
    have HI : Hid (VerIn (w.alloc (.cells (adrC x.v6 x.b).toArray 25 (0, 0))) (g v) (vbo v) rs rv sv) := Lib.hid hi
    have HF := Lib.hid (find_any (vbo v) x _ HI.out hx)
    have HMEM := Lib.hid (hasV_mem hv)
    have hne := eql_ver (vbo v)
    have HAZ : Hid ((Tryz.prog.info? 25).map (·.size) = some (adrC x.v6 x.b).length) := Lib.hid (by rw [adrC_len, hx]; exact adrSz)
    have hnot : ∀ (x : Bool) (w : World), (Op.unary .not (.bool x)).run Tryz.prog w = .ok (.bool (!x)) w := fun _ _ => rfl
    have HB := Lib.hid hB
    have HT1 := Lib.hid h1
    have HM := Lib.hid hm0
    clear h h1 hi hB hm0
    cases hp : placeR x rs with
    | none =>
      have hnx : nextT vs v x = none := by unfold nextT; rw [hv, Option.bind_some, hp]; rfl
      rw [hp] at HF
      rw [hnx]
      clear hv
      go_enter Tryz.func33, Tryz.ntmps33
      go_wp2_with (first | (go_at_call 32; refine HO.out.mono ?_; rintro e w' ⟨rfl, rfl⟩) | (refine wpList_value rfl (.agg (spotC x).toArray) (exec_build_spot rfl x hx rfl rfl rfl _) ?_) | (refine wpList_load_blk rfl _ _ rfl w.heap.size 0 rfl 25 (adrC x.v6 x.b) (adrC x.v6 x.b) _ HB.out (by simp) Tryz.underlying25 rfl HAZ.out ?_))
      refine HF.out.mono ?_; rintro e w2 ⟨rfl, hf2, hm2⟩
      have HT2 := Lib.hid (HT1.out.find HMEM.out ⟨_, _, hf2⟩ hm2)
      have HM2 : Hid (Mod f w w2) := Lib.hid ((HM.out.mono fun x hx => hx.elim).trans hm2 fun k hk => .inl (by rw [show k = vbo v from hk]; exact (HT1.out.sub _ _ HI.out.own).1))
      have HS2 : Hid (w.heap.size ≤ w2.heap.size) := Lib.hid (Nat.le_trans HM.out.size hm2.size)
      clear hf2 hm2
      go_wp2
      go_ret2
      exact ⟨_, _, rfl, ⟨HS2.out, Nat.le_refl _⟩, Row.nil _ _ _ _, HT2.out.mono fun k hk hl => ⟨hk.imp (fun x => x) (fun x => Nat.le_trans HM.out.size x), hl⟩, HM2.out⟩
    | some i =>
      have hil := placeR_lt hp
      have hr : rs[i]? = some rs[i] := List.getElem?_eq_getElem hil
      have hnx : nextT vs v x = some rs[i].next := by unfold nextT; rw [hv, Option.bind_some, hp, Option.map_some, getD_get rs i hil]
      rw [hp] at HF
      rw [hnx]
      have HR := Lib.hid hr
      obtain ⟨r, hre⟩ : ∃ r, r = rs[i] := ⟨_, rfl⟩
      rw [← hre] at HR ⊢
      clear hv hnx hr hp
      have hform := HI.out.rows.row.form
      obtain ⟨ad, cp, rfl, hnc, hcm, hg⟩ := hform
      obtain ⟨g0, rfl, hgo, hgl, _⟩ := hg (by omega)
      unfold maxLen at hcm
      have HGO := Lib.hid hgo
      clear hgo
      have hin : i < rs.length := hil
      obtain ⟨n, hn⟩ : ∃ n, n = rs.length := ⟨_, rfl⟩
      rw [← hn] at hin hnc HI HF
      have HL := Lib.hid hn
      clear hn hre
      go_enter Tryz.func33, Tryz.ntmps33
      go_wp2_with (first | (go_at_call 32; refine HO.out.mono ?_; rintro e w' ⟨rfl, rfl⟩) | (refine wpList_value rfl (.agg (spotC x).toArray) (exec_build_spot rfl x hx rfl rfl rfl _) ?_) | (refine wpList_load_blk rfl _ _ rfl w.heap.size 0 rfl 25 (adrC x.v6 x.b) (adrC x.v6 x.b) _ HB.out (by simp) Tryz.underlying25 rfl HAZ.out ?_))
      refine HF.out.mono ?_; rintro e w2 ⟨rfl, hf2, hm2⟩
      have HT2 := Lib.hid (HT1.out.find HMEM.out ⟨_, _, hf2⟩ hm2)
      have HM2 : Hid (Mod f w w2) := Lib.hid ((HM.out.mono fun x hx => hx.elim).trans hm2 fun k hk => .inl (by rw [show k = vbo v from hk]; exact (HT1.out.sub _ _ HI.out.own).1))
      have HS2 : Hid (w.heap.size ≤ w2.heap.size) := Lib.hid (Nat.le_trans HM.out.size hm2.size)
      have c0 := hf2.rowsAt
      have HO2 := Lib.hid (hf2.rows.ok r (List.mem_of_getElem? HR.out))
      have cN : w2.cell? ⟨g0, i * 20 + 19, none⟩ = some (sv i) := hf2.rows.rowAt' HR.out 19 _ (rowC_19 _ _ _ _ _ HO2.out.1)
      have HN := Lib.hid (hf2.rows.next i r HR.out)
      have HNX := Lib.hid (goodT_next hf2.good (List.mem_of_getElem? HR.out))
      clear hf2 hm2
      go_wp2_with fail
      refine (cloneI_any (sv i) r.next.length (ints r.next) _ HN.out.reads (by simp [ints]) (ints_one _) (by have := HNX.out; omega)).mono ?_; rintro e w3 ⟨u, rfl, hu, hm3⟩
      have HU := Lib.hid hu
      have HM3 := Lib.hid hm3
      clear hu hm3 c0 cN
      go_wp2
      go_ret2
      exact ⟨_, w2.heap.size, rfl, ⟨HS2.out, HM3.out.size⟩, HU.out, (HT2.out.mono (f' := fun k => (f k ∨ w.heap.size ≤ k) ∧ k < w2.heap.size) fun k hk hl => ⟨hk.imp (fun x => x) (fun x => Nat.le_trans HM.out.size x), hl⟩).keep HM3.out fun k _ f => f, HM2.out.trans HM3.out fun k f => f.elim⟩
end Go.Proofs.YtegjamjognpdkaaGreat
