/- The reference's versions: Install: contract. -/
import Derived.Test.YtegjamjognpdkaaGreatReg
import Derived.Test.YtegjamjognpdkaaGreatRefV
import Derived.Test.YtegjamjognpdkaaGreatOfA
import Derived.Test.YtegjamjognpdkaaGreatRefI
namespace Go.Proofs.YtegjamjognpdkaaGreat
open Go.RowKit
set_option linter.unusedVariables false
inductive PT where
  | n
  | c (i k : Nat) (r : PT)
  | f (i j : Nat) (p q : PT)
def PT.len : PT → Nat
  | .n => 0
  | .c _ _ r => r.len + 1
  | .f _ _ p q => max p.len q.len + 1
section
variable {P : Program} {ops : Array Oper} {Q : Exit → Act → World → Prop} {md : Region.Mode} {S : World → Prop} {B : List Nat}
def ptOk (md : Region.Mode) (ops : Array Oper) (B : List Nat) : PT → Array Bool → Bool
  | .n, listed => (Region.ready md ops listed).isEmpty
  | .c i k r, listed =>
    (match k with
      | 0 => Region.free md ops listed i && (Region.ready md ops listed).contains i
      | 1 => Region.free md ops listed i && (Region.ready md ops listed).contains i && waits md ops B i
      | _ => Region.ready md ops listed == [i]) && ptOk md ops B r (listed.setIfInBounds i true)
  | .f i j p q, listed => Region.ready md ops listed == [i, j] && ptOk md ops B p (listed.setIfInBounds i true) && ptOk md ops B q (listed.setIfInBounds j true)
def wpT (P : Program) (ops : Array Oper) (Q : Exit → Act → World → Prop) (S : World → Prop) (B : List Nat) : PT → Act → World → Prop
  | .n, a, w => Q .normal a w
  | .c i k r, a, w =>
    match k with
    | 0 => ∃ o v, ops[i]? = some o ∧ YieldsIf P ops (fun _ => True) o v a ∧ wpT P ops Q S B r (a.put o.dst v) w
    | 1 => ∃ o v, ops[i]? = some o ∧ YieldsIf P ops S o v a ∧ S w ∧ wpT P ops Q S B r (a.put o.dst v) w
    | _ => wpOp P ops Q i (fun a' w' => (B.contains i = false → S w → S w') ∧ wpT P ops Q S B r a' w') a w
  | .f i j p q, a, w => wpOp P ops Q i (fun a' w' => (B.contains i = false → S w → S w') ∧ wpT P ops Q S B p a' w') a w ∧ wpOp P ops Q j (fun a' w' => (B.contains j = false → S w → S w') ∧ wpT P ops Q S B q a' w') a w
theorem wpAnyB_of_T (hs : Region.noSelect ops = true) (hQ : ∀ d v c a w, Q (.panic c) (Act.put a d v) w → Q (.panic c) a w) : ∀ (p : PT) (fuel : Nat) (listed : Array Bool) (a : Act) (w : World),
    ptOk md ops B p listed = true → p.len ≤ fuel → wpT P ops Q S B p a w → wpAnyB P md ops Q S B fuel listed a w
  | .n, fuel, listed, a, w, hp, _, h => by
    simp only [ptOk, List.isEmpty_iff] at hp
    cases fuel with
    | zero => exact ⟨hp, h⟩
    | succ n => exact ⟨fun _ => h, by rw [hp]; simp⟩
  | .c i k r, fuel, listed, a, w, hp, hf, h => by
    cases fuel with
    | zero => simp [PT.len] at hf
    | succ n =>
      have hf' : r.len ≤ n := by simpa [PT.len] using hf
      simp only [ptOk, Bool.and_eq_true] at hp
      obtain ⟨hk, hrest⟩ := hp
      match k with
      | 0 =>
        simp only [Bool.and_eq_true] at hk
        obtain ⟨o, v, ho, hy, hcont⟩ := h
        exact wpAnyB_first ho (Region.noSelect_spec hs) (fun c a w => hQ o.dst v c a w) (fun _ _ _ _ _ _ _ h => h) n listed a w (Region.free_spec ho hk.1) (by simpa using hk.2) hy trivial (wpAnyB_of_T hs hQ r n _ _ _ hrest hf' hcont)
      | 1 =>
        simp only [Bool.and_eq_true] at hk
        obtain ⟨o, v, ho, hy, hS, hcont⟩ := h
        exact wpAnyB_first ho (Region.noSelect_spec hs) (fun c a w => hQ o.dst v c a w) (fun j oj hj hno w w' hSS hSw => hSS (waits_spec hk.2 j oj hj hno) hSw) n listed a w (Region.free_spec ho hk.1.1) (by simpa using hk.1.2) hy hS (wpAnyB_of_T hs hQ r n _ _ _ hrest hf' hcont)
      | k + 2 =>
        have hr : Region.ready md ops listed = [i] := by simpa using hk
        refine ⟨fun h0 => (by rw [hr] at h0; cases h0), fun j hj => ?_⟩
        rw [hr] at hj
        obtain rfl : j = i := by simpa using hj
        unfold wpT at h
        exact wpOp_mono (fun a' w' h' => ⟨h'.1, wpAnyB_of_T hs hQ r n _ a' w' hrest hf' h'.2⟩) h
  | .f i j p q, fuel, listed, a, w, hp, hf, h => by
    cases fuel with
    | zero => simp [PT.len] at hf
    | succ n =>
      have hf1 : p.len ≤ n := by simp only [PT.len] at hf; omega
      have hf2 : q.len ≤ n := by simp only [PT.len] at hf; omega
      simp only [ptOk, Bool.and_eq_true] at hp
      obtain ⟨⟨hk, hp1⟩, hp2⟩ := hp
      have hr : Region.ready md ops listed = [i, j] := by simpa using hk
      refine ⟨fun h0 => (by rw [hr] at h0; cases h0), fun x hx => ?_⟩
      rw [hr] at hx
      unfold wpT at h
      rcases List.mem_cons.1 hx with rfl | hx
      · exact wpOp_mono (fun a' w' h' => ⟨h'.1, wpAnyB_of_T hs hQ p n _ a' w' hp1 hf1 h'.2⟩) h.1
      · obtain rfl : x = j := by simpa using hx
        exact wpOp_mono (fun a' w' h' => ⟨h'.1, wpAnyB_of_T hs hQ q n _ a' w' hp2 hf2 h'.2⟩) h.2
theorem wp_region_T {id : Nat} {a : Act} {w : World} (B : List Nat) (p : PT) (S : World → Prop) (hm : P.follows .mixedOrders = true)
    (hc : (Region.noSelect ops && ptOk .any ops B p (Array.replicate ops.size false) && decide (p.len ≤ ops.size)) = true)
    (hQ : ∀ d v c a w, Q (.panic c) (Act.put a d v) w → Q (.panic c) a w) (h : wpT P ops Q S B p a w.drew) : (Code.region id ops true).wp P Q a w := by
  simp only [Bool.and_eq_true, decide_eq_true_eq] at hc
  exact wp_region_any hm (wpAny_of_B (S := S) (B := B) _ _ _ _ (wpAnyB_of_T hc.1.1 hQ p _ _ _ _ hc.1.2 hc.2 h))
theorem T_nil {a : Act} {w : World} (h : Q .normal a w) : wpT P ops Q S B .n a w := h
theorem T_take {i : Nat} {r : PT} {a : Act} {w : World} {o : Oper} {v : Value} (ho : ops[i]? = some o) (hw : Region.wanted o (yielded ops a.tmps) = true) (hr : ∀ w, (execOp a.eval o).run P w = .ok (.value v) w)
    (h : wpT P ops Q S B r (a.put o.dst v) w) : wpT P ops Q S B (.c i 0 r) a w := ⟨o, v, ho, .inl ⟨hw, fun w _ => hr w⟩, h⟩
theorem T_held {i : Nat} {r : PT} {a : Act} {w : World} {o : Oper} {v : Value} (ho : ops[i]? = some o) (hw : Region.wanted o (yielded ops a.tmps) = true) (hS : S w) (hr : ∀ w, S w → (execOp a.eval o).run P w = .ok (.value v) w)
    (h : wpT P ops Q S B r (a.put o.dst v) w) : wpT P ops Q S B (.c i 1 r) a w := ⟨o, v, ho, .inl ⟨hw, hr⟩, hS, h⟩
theorem T_do {i : Nat} {r : PT} {a : Act} {w : World} {o : Oper} (ho : ops[i]? = some o) (hw : Region.wanted o (yielded ops a.tmps) = true)
    (h : ∀ K : Act → World → Prop, (∀ a' w', S w' → wpT P ops Q S B r a' w' → K a' w') → o.wp P a w K Q) : wpT P ops Q S B (.c i 2 r) a w := by
  unfold wpT
  exact wpOp_step ho fun K hK => by rw [if_pos hw]; exact h K fun a' w' hS hp => hK a' w' ⟨fun _ _ => hS, hp⟩
theorem T_end {i : Nat} {r : PT} {a : Act} {w : World} {o : Oper} (ho : ops[i]? = some o) (hB : B.contains i = true) (hw : Region.wanted o (yielded ops a.tmps) = true)
    (h : ∀ K : Act → World → Prop, (∀ a' w', wpT P ops Q S B r a' w' → K a' w') → o.wp P a w K Q) : wpT P ops Q S B (.c i 3 r) a w := by
  unfold wpT
  exact wpOp_step ho fun K hK => by rw [if_pos hw]; exact h K fun a' w' hp => hK a' w' ⟨fun hb => (by rw [hB] at hb; cases hb), hp⟩
theorem T_fork {i j : Nat} {p q : PT} {a : Act} {w : World} {oi oj : Oper} (hi : ops[i]? = some oi) (hj : ops[j]? = some oj) (wi : Region.wanted oi (yielded ops a.tmps) = true) (wj : Region.wanted oj (yielded ops a.tmps) = true)
    (h1 : ∀ K : Act → World → Prop, (∀ a' w', S w' → wpT P ops Q S B p a' w' → K a' w') → oi.wp P a w K Q) (h2 : ∀ K : Act → World → Prop, (∀ a' w', S w' → wpT P ops Q S B q a' w' → K a' w') → oj.wp P a w K Q) : wpT P ops Q S B (.f i j p q) a w := by
  unfold wpT
  exact ⟨wpOp_step hi fun K hK => by rw [if_pos wi]; exact h1 K fun a' w' hS hp => hK a' w' ⟨fun _ _ => hS, hp⟩, wpOp_step hj fun K hK => by rw [if_pos wj]; exact h2 K fun a' w' hS hp => hK a' w' ⟨fun _ _ => hS, hp⟩⟩
end
end Go.Proofs.YtegjamjognpdkaaGreat
namespace Go.Proofs.YtegjamjognpdkaaGreat
open Go.RowKit
set_option linter.unusedVariables false
set_option linter.unusedSimpArgs false
def rinsC (es : List VE) (now : Int) (is : Bool) (v : Int) (l : List TRow) : Int :=
  if goodT l = false then 2 else if 0 ≤ findI es v then 9 else if is && decide (Sr.gap now v ≤ 0) then 11 else if 8 ≤ es.length then 7 else 0
def atV : List VE → Int → Nat
  | [], _ => 0
  | e :: es, v => if e.n < v then atV es v + 1 else 0
def insE (es : List VE) (v : Int) (l : List TRow) (rv : Value) : List VE := es.take (atV es v) ++ ⟨v, l, rv⟩ :: es.drop (atV es v)
theorem atV_le : ∀ (es : List VE) (v : Int), atV es v ≤ es.length
  | [], _ => Nat.le_refl _
  | e :: es, v => by
    unfold atV
    split
    · have := atV_le es v; simp; omega
    · exact Nat.zero_le _
theorem atV_at : ∀ (es : List VE) (v : Int) (j : Nat), j ≤ es.length → (∀ (i : Nat) (x : VE), i < j → es[i]? = some x → x.n < v) → (∀ x, es[j]? = some x → ¬ x.n < v) → atV es v = j
  | [], _, j, hj, _, _ => by simp at hj; simp [atV, hj]
  | e :: es, v, 0, _, _, h => by
    have := h e rfl
    simp [atV, this]
  | e :: es, v, j + 1, hj, hb, h => by
    have h0 := hb 0 e (by omega) rfl
    have := atV_at es v j (by simpa using hj) (fun i x hi hx => hb (i + 1) x (by omega) (by simpa using hx)) (fun x hx => h x (by simpa using hx))
    simp [atV, h0, this]
theorem cellsV_take : ∀ (es : List VE) (k : Nat), (cellsV es).take (k * 2) = cellsV (es.take k)
  | [], k => by simp [cellsV]
  | e :: es, 0 => by simp [cellsV]
  | e :: es, k + 1 => by
    rw [show (k + 1) * 2 = k * 2 + 1 + 1 by omega]
    simp [cellsV, cellsV_take es k]
theorem cellsV_drop : ∀ (es : List VE) (k : Nat), (cellsV es).drop (k * 2) = cellsV (es.drop k)
  | [], k => by simp [cellsV]
  | e :: es, 0 => by simp [cellsV]
  | e :: es, k + 1 => by
    rw [show (k + 1) * 2 = k * 2 + 1 + 1 by omega]
    simp [cellsV, cellsV_drop es k]
theorem RT.one {w : World} {f : Nat → Prop} {xb : Nat} {es : List VE} {now : Int} {is : Bool} {lv : Value} (h : RT w f xb es now is lv) : ∀ u ∈ cellsV es, u.oneCell' = true := by
  have hr := h.rows
  generalize es = l at hr
  induction l with
  | nil => intro u hu; cases hu
  | cons e l ih =>
    intro u hu
    simp only [cellsV, List.mem_cons] at hu
    rcases hu with rfl | rfl | hu
    · rfl
    · obtain ⟨sv, hs⟩ := hr e List.mem_cons_self
      obtain ⟨_, _, er, _⟩ := hs.row.form
      rw [er]; rfl
    · exact ih (fun e he => hr e (List.mem_cons_of_mem _ he)) u hu
theorem exec_build_v {ev : Operand → Value} {op : Oper} {x y : Operand} (ho : op.op = .build 52 #[(0, x), (1, y)]) (v : Int) (ad : Option Addr) (n cp : Nat) (ex : ev x = .int .u32 v) (ey : ev y = .slice ad n cp) (w : World) :
    (execOp ev op).run Tryz.prog w = .ok (.value (.agg [Value.int .u32 v, .slice ad n cp].toArray)) w := by
  simp [execOp, ho, ex, ey, Instr.build, Sem.run_bind, Tryz.zeroValue52, run_underlying Tryz.underlying52, Instr.fill, Result.andThen, Value.cells, Tryz.sizeOf36, Tryz.sizeOf29]
theorem sliceVSz : (Tryz.prog.info? 33).map (·.size) = some 1 := by kernel_rfl
theorem insDone {w w3 w9 : World} {f fl : Nat → Prop} {xb A n nl cpl : Nat} {es : List VE} {now v : Int} {is : Bool} {lv v3 : Value} {adl : Option Addr} {l : List TRow} {sv : Nat → Value} {wb : World} (h : RT w3 f xb es now is lv) (hr : RowsOwn w fl (.slice adl nl cpl) l sv) (hfl : ¬ fl xb) (hm : Mod (fun _ => False) w w3) (hx : xb < w.heap.size) (ha : atV es v = A)
    (h6 : Row w3 (fun q => wb.heap.size ≤ q) 52 2 v3 (A + 1 + (n - A)) (((cellsV es).take (A * 2) ++ [Value.int .u32 v, .slice adl nl cpl]) ++ (cellsV es).drop (A * 2))) (hn : n = es.length) (hA : A ≤ n)
    (h9 : Blk w9 xb 35 ([lv, .int .u32 now, .bool is].set 0 v3)) (hm9 : Mod (fun k => k = xb) w3 w9) (hwb : w.heap.size ≤ wb.heap.size) :
    RT w9 (fun q => (f q ∨ fl q) ∨ w.heap.size ≤ q) xb (insE es v l (.slice adl nl cpl)) now is v3 ∧ Mod (fun q => q = xb) w w9 := by
  have hl : A + 1 + (n - A) = (insE es v l (.slice adl nl cpl)).length := by
    unfold insE
    rw [ha, List.length_append, List.length_cons, List.length_take, List.length_drop, ← hn]
    omega
  have hc : ((cellsV es).take (A * 2) ++ [Value.int .u32 v, .slice adl nl cpl]) ++ (cellsV es).drop (A * 2) = cellsV (insE es v l (.slice adl nl cpl)) := by
    unfold insE
    rw [ha, cellsV_take, cellsV_drop, cellsV_append]
    simp [cellsV]
  rw [hl, hc] at h6
  refine ⟨⟨h9, (h6.keep hm9 fun q hq e => by have : wb.heap.size ≤ q := hq; omega).mono fun q hq => .inr (Nat.le_trans hwb hq), fun e he => ?_, fun hx' => hx'.elim (fun hx' => hx'.elim h.far hfl) fun hx' => by omega⟩, (hm.mono fun _ f => f.elim).trans hm9 fun q hq => .inl hq⟩
  have hold : e ∈ es → ∃ sv, RowsOwn w9 (fun q => (f q ∨ fl q) ∨ w.heap.size ≤ q) e.rv e.rs sv := fun he => by
    obtain ⟨sv, hs⟩ := h.rows e he
    exact ⟨sv, (hs.keep hm9 fun q hq e => h.far (by rw [← show q = xb from e]; exact hq)).mono fun q hq => .inl (.inl hq)⟩
  unfold insE at he
  rw [List.mem_append, List.mem_cons] at he
  rcases he with he | rfl | he
  · exact hold (List.mem_of_mem_take he)
  · exact ⟨sv, ((hr.keep hm fun _ _ f => f).keep hm9 fun q hq e => hfl (by rw [← show q = xb from e]; exact hq)).mono fun q hq => .inl (.inr hq)⟩
  · exact hold (List.mem_of_mem_drop he)
set_option maxRecDepth 100000 in
set_option maxHeartbeats 8000000 in
theorem refInstall_any {w : World} {f fl : Nat → Prop} {xb : Nat} {es : List VE} {now : Int} {is : Bool} {lv lvv : Value} {l : List TRow} {sv : Nat → Value} (h : RT w f xb es now is lv) (v : Int) (hr : RowsOwn w fl lvv l sv) (hfl : ¬ fl xb) (hn : 0 ≤ now ∧ now < 4294967296) (hv : 0 ≤ v ∧ v < 4294967296) (h8 : es.length ≤ 8) :
    Calls Tryz.prog 7 #[.pointer (some ⟨xb, 0, none⟩), .int .u32 v, lvv] w fun e w' => e = .returned (.int .i64 (rinsC es now is v l)) ∧ (∃ lv', RT w' (fun q => (f q ∨ fl q) ∨ w.heap.size ≤ q) xb (if rinsC es now is v l = 0 then insE es v l lvv else es) now is lv') ∧ Mod (fun q => q = xb) w w' := by
  obtain ⟨ad, cp, rfl, hnc, hcm, hg⟩ := h.row.form
  unfold maxLen at hcm
  obtain ⟨adl, cpl, elv, _⟩ := hr.row.form
  obtain ⟨n, hnn⟩ : ∃ n, n = es.length := ⟨_, rfl⟩
  obtain ⟨nl, hnl⟩ : ∃ nl, nl = l.length := ⟨_, rfl⟩
  rw [← hnl] at elv
  subst elv
  have hxl := h.tab.lt
  obtain ⟨C, hC⟩ : ∃ C, C = rinsC es now is v l := ⟨_, rfl⟩
  obtain ⟨E, hE⟩ : ∃ E, E = if rinsC es now is v l = 0 then insE es v l (.slice adl nl cpl) else es := ⟨_, rfl⟩
  rw [← hE, ← hC]
  have no : ∀ (c : Int) (w2 : World), rinsC es now is v l = c → c ≠ 0 → Mod (fun _ => False) w w2 → Ending.returned (.int .i64 c) = Ending.returned (.int .i64 C) ∧ (∃ lv', RT w2 (fun q => (f q ∨ fl q) ∨ w.heap.size ≤ q) xb E now is lv') ∧ Mod (fun q => q = xb) w w2 := by
    intro c w2 hc hc0 hm
    rw [hC, hE, hc, if_neg hc0]
    exact ⟨rfl, ⟨_, (h.keep hm (fun k _ f => f) fun f => f).mono (fun k hk _ => .inl (.inl hk)) fun hx => hx.elim (fun hx => hx.elim h.far hfl) fun hx => by omega⟩, hm.mono fun _ f => f.elim⟩
  have NO := Lib.hid no
  have HT := Lib.hid h
  have HR := Lib.hid hr
  have HFL := Lib.hid hfl
  have HC := Lib.hid hC
  have HE := Lib.hid hE
  have HXL := Lib.hid hxl
  have HL := Lib.hid hnn
  obtain ⟨hn0, hn1⟩ := hn
  obtain ⟨hv0, hv1⟩ := hv
  rw [← hnn] at hnc hg h8
  have HG := Lib.hid hg
  have hnot : ∀ (x : Bool) (w : World), (Op.unary .not (.bool x)).run Tryz.prog w = .ok (.bool (!x)) w := fun _ _ => rfl
  clear no h hr hfl hC hE hxl hg hnl hnn
  go_enter Tryz.func7, Tryz.ntmps7
  go_wp2_with fail
  refine (refGood_any _ l sv _ HR.out.at).mono ?_; rintro e w1 ⟨rfl, hm1⟩
  have HM1 := Lib.hid hm1
  have HT1 := Lib.hid (HT.out.keep hm1 (fun k _ f => f) fun f => f)
  clear hm1
  cases hgd : goodT l with
  | false =>
    go_wp2
    go_ret
    exact NO.out _ _ (by unfold rinsC; rw [if_pos hgd]) (by decide) HM1.out
  | true =>
    have HGD : Hid (¬ goodT l = false) := Lib.hid (by rw [hgd]; decide)
    clear hgd
    go_wp2_with fail
    refine (refFind_any HT1.out v).mono ?_; rintro e wb ⟨rfl, rfl⟩
    obtain ⟨c, hc⟩ : ∃ c, c = findI es v := ⟨_, rfl⟩
    rw [← hc]
    have HCF := Lib.hid hc
    clear hc
    have c0 : wb.cell? ⟨xb, 0, none⟩ = some (.slice ad n cp) := by have := HT1.out.tab.cell (j := 0) rfl; rwa [← HL.out] at this
    have c1 := HT1.out.tab.cell (j := 1) rfl
    have c2 := HT1.out.tab.cell (j := 2) rfl
    by_cases hf : 0 ≤ c
    · have hd : decide (0 ≤ c) = true := decide_eq_true hf
      have HCN : Hid (rinsC es now is v l = 9) := Lib.hid (by unfold rinsC; rw [if_neg HGD.out, ← HCF.out, if_pos hf])
      go_wp2
      go_ret
      exact NO.out _ _ HCN.out (by decide) HM1.out
    · have hd : decide (0 ≤ c) = false := decide_eq_false hf
      have HF : Hid (¬ 0 ≤ findI es v) := Lib.hid (by rw [← HCF.out]; exact hf)
      clear hf HCF
      obtain ⟨O, hO⟩ : ∃ O, O = (is && decide (Sr.gap now v ≤ 0)) := ⟨_, rfl⟩
      have HO := Lib.hid hO
      have key : (O = true ∧ is = true ∧ Sr.gap now v ≤ 0) ∨ (O = false ∧ (is = false ∨ (is = true ∧ ¬ Sr.gap now v ≤ 0))) := by
        cases is with
        | false => exact .inr ⟨by rw [hO]; rfl, .inl rfl⟩
        | true =>
          by_cases hg : Sr.gap now v ≤ 0
          · exact .inl ⟨by rw [hO, decide_eq_true hg]; rfl, rfl, hg⟩
          · exact .inr ⟨by rw [hO, decide_eq_false hg]; rfl, .inr ⟨rfl, hg⟩⟩
      clear hO
      rcases key with ⟨hO, his, hgp⟩ | ⟨hO, hcase⟩
      · subst his
        have hgd : decide (Sr.gap now v ≤ 0) = true := decide_eq_true hgp
        have HCN : Hid (rinsC es now true v l = 11) := Lib.hid (by unfold rinsC; rw [if_neg HGD.out, if_neg HF.out, if_pos (by rw [← HO.out]; exact hO)])
        clear hO hgp
        go_wp2_with (go_at_call 24; refine (refGap_any _ _ hn0 hn1 hv0 hv1 _).mono ?_; rintro e w' ⟨rfl, rfl⟩)
        go_ret
        exact NO.out _ _ HCN.out (by decide) HM1.out
      · have HNO : Hid (¬ (is && decide (Sr.gap now v ≤ 0)) = true) := Lib.hid (by rw [← HO.out, hO]; decide)
        clear hO HO
        by_cases h8e : 8 ≤ n
        · have h8d : decide ((8 : Int) ≤ (n : Int)) = true := decide_eq_true (by omega)
          have HCN : Hid (rinsC es now is v l = 7) := Lib.hid (by unfold rinsC; rw [if_neg HGD.out, if_neg HF.out, if_neg HNO.out, if_pos (by rw [← HL.out]; exact h8e)])
          clear h8e
          rcases hcase with his | ⟨his, hgp⟩
          · subst his
            go_wp2
            go_ret
            exact NO.out _ _ HCN.out (by decide) HM1.out
          · subst his
            have hgd : decide (Sr.gap now v ≤ 0) = false := decide_eq_false hgp
            clear hgp
            go_wp2_with (go_at_call 24; refine (refGap_any _ _ hn0 hn1 hv0 hv1 _).mono ?_; rintro e w' ⟨rfl, rfl⟩)
            go_ret
            exact NO.out _ _ HCN.out (by decide) HM1.out
        · have h8d : decide ((8 : Int) ≤ (n : Int)) = false := decide_eq_false (by omega)
          have HCN : Hid (rinsC es now is v l = 0) := Lib.hid (by unfold rinsC; rw [if_neg HGD.out, if_neg HF.out, if_neg HNO.out, if_neg (by rw [← HL.out]; exact h8e)])
          rcases hcase with his | ⟨his, hgp⟩
          · subst his
            go_wp2_with fail
            go_loopw [7] (fun iv wr => ∃ j : Nat, j ≤ n ∧ iv = .int .i64 (j : Int) ∧ wr = wb ∧ ∀ (i : Nat) (x : VE), i < j → es[i]? = some x → x.n < v) (fun iv _ => n - (intOf iv).toNat)
            case atStart => exact ⟨0, Nat.zero_le _, rfl, rfl, fun i x hi => by omega⟩
            case round =>
              obtain ⟨j, hj, rfl, hwr, hall⟩ := hrel
              subst hwr
              have HALL := Lib.hid hall
              clear hall
              by_cases hlt : j < n
              · obtain ⟨g, rfl, _, _, hc⟩ := HG.out (by omega)
                obtain ⟨e, he⟩ : ∃ e, es[j]? = some e := ⟨_, List.getElem?_eq_getElem (by have := HL.out; omega)⟩
                have cn := HM1.out.cell (fun f => f) (hc _ _ (cellsV_get es j e he).1)
                have HEE := Lib.hid he
                clear hc he
                by_cases hev : e.n < v
                · have hdv : decide (e.n < v) = true := decide_eq_true hev
                  have HA2 : Hid (∀ (i : Nat) (x : VE), i < j + 1 → es[i]? = some x → x.n < v) := Lib.hid fun i x hi hx => by
                    rcases Nat.lt_or_ge i j with h | h
                    · exact HALL.out i x h hx
                    · obtain rfl : i = j := by omega
                      rw [HEE.out] at hx
                      cases hx
                      exact hev
                  clear hev
                  go_wp2
                  go_roundw
                  case rel => exact ⟨j + 1, by omega, by go_num, by first | rfl | trivial, HA2.out⟩
                  case measure => simp [intOf]; omega
                · have hdv : decide (e.n < v) = false := decide_eq_false hev
                  have HAT : Hid (atV es v = j) := Lib.hid (atV_at es v j (by have := HL.out; omega) HALL.out fun x hx => by rw [HEE.out] at hx; cases hx; exact hev)
                  clear hev
                  go_wp2_with fail
                  have HOR : Hid (Reads wr (.slice (some ⟨g, 0, none⟩) n cp) n (cellsV es)) := Lib.hid (by have h := HT1.out.row.reads; rw [← HL.out] at h; exact h)
                  have HCL : Hid ((cellsV es).length = n * 2) := Lib.hid (by rw [cellsV_len, HL.out])
                  have HC1 := Lib.hid HT1.out.one
                  have HRO : Hid (∀ u ∈ [Value.int .u32 v, .slice adl nl cpl], u.oneCell' = true) := Lib.hid fun u hu => by
                    simp at hu
                    rcases hu with rfl | rfl <;> rfl
                  have HS : Hid (∀ W : World, Mod (fun _ => False) wr W → W.cell? ⟨xb, 0, none⟩ = some (.slice (some ⟨g, 0, none⟩) n cp)) := Lib.hid fun W hW => hW.cell (fun f => f) c0
                  refine wp_region_T [23] (.c 0 0 (.c 2 0 (.c 3 0 (.c 4 0 (.c 5 1 (.c 6 0 (.c 7 0 (.c 9 0 (.c 10 0 (.c 11 0 (.c 14 0 (.c 15 0 (.c 16 0 (.c 17 1 (.c 18 0 (.c 19 0 (.f 1 12 (.f 8 12 (.c 12 2 (.c 13 2 (.c 20 2 (.c 21 0 (.c 22 0 (.c 23 3 .n)))))) (.c 8 2 (.c 13 2 (.c 20 2 (.c 21 0 (.c 22 0 (.c 23 3 .n))))))) (.c 1 2 (.c 8 2 (.c 13 2 (.c 20 2 (.c 21 0 (.c 22 0 (.c 23 3 .n)))))))))))))))))))))))) (fun w' : World => w'.cell? ⟨xb, 0, none⟩ = some (.slice (some ⟨g, 0, none⟩) n cp)) (by kernel_rfl) (by kernel_rfl) (fun d _ _ _ _ h => by cases d <;> exact h) ?_
                  refine T_take (v := .pointer (some ⟨xb, 0, none⟩)) rfl rfl (by intro w0; go_simp) ?_
                  try simp only [List.getElem_toArray, List.getElem_cons_succ, List.getElem_cons_zero, Act.put, List.setIfInBounds_toArray, List.set_cons_zero, List.set_cons_succ]
                  refine T_take (v := .pointer (some ⟨xb, 0, none⟩)) rfl rfl (by intro w0; go_simp) ?_
                  try simp only [List.getElem_toArray, List.getElem_cons_succ, List.getElem_cons_zero, Act.put, List.setIfInBounds_toArray, List.set_cons_zero, List.set_cons_succ]
                  refine T_take (v := .pointer (some ⟨xb, 0, none⟩)) rfl rfl (by intro w0; go_simp) ?_
                  try simp only [List.getElem_toArray, List.getElem_cons_succ, List.getElem_cons_zero, Act.put, List.setIfInBounds_toArray, List.set_cons_zero, List.set_cons_succ]
                  refine T_take (v := .pointer (some ⟨xb, 0, none⟩)) rfl rfl (by intro w0; go_simp) ?_
                  try simp only [List.getElem_toArray, List.getElem_cons_succ, List.getElem_cons_zero, Act.put, List.setIfInBounds_toArray, List.set_cons_zero, List.set_cons_succ]
                  refine T_held (v := .slice (some ⟨g, 0, none⟩) n cp) rfl rfl (HS.out _ (Mod.refl _ _).drew) (by intro w0 hSw; (try dsimp only at hSw); go_simp; try with_reducible rfl) ?_
                  try simp only [List.getElem_toArray, List.getElem_cons_succ, List.getElem_cons_zero, Act.put, List.setIfInBounds_toArray, List.set_cons_zero, List.set_cons_succ]
                  refine T_take (v := .int .i64 (j : Int)) rfl rfl (by intro w0; go_simp) ?_
                  try simp only [List.getElem_toArray, List.getElem_cons_succ, List.getElem_cons_zero, Act.put, List.setIfInBounds_toArray, List.set_cons_zero, List.set_cons_succ]
                  refine T_take (v := hiV (.slice (some ⟨g, 0, none⟩) n cp) j) rfl rfl (fun w0 => exec_slice_hi Tryz.elV rfl HOR.out rfl j rfl hj w0) ?_
                  try simp only [List.getElem_toArray, List.getElem_cons_succ, List.getElem_cons_zero, Act.put, List.setIfInBounds_toArray, List.set_cons_zero, List.set_cons_succ]
                  refine T_take (v := .int .u32 v) rfl rfl (by intro w0; go_simp) ?_
                  try simp only [List.getElem_toArray, List.getElem_cons_succ, List.getElem_cons_zero, Act.put, List.setIfInBounds_toArray, List.set_cons_zero, List.set_cons_succ]
                  refine T_take (v := .slice adl nl cpl) rfl rfl (by intro w0; go_simp) ?_
                  try simp only [List.getElem_toArray, List.getElem_cons_succ, List.getElem_cons_zero, Act.put, List.setIfInBounds_toArray, List.set_cons_zero, List.set_cons_succ]
                  refine T_take (v := .agg ([Value.int .u32 v, .slice adl nl cpl]).toArray) rfl rfl (fun w0 => exec_build_v rfl v adl nl cpl rfl rfl w0) ?_
                  try simp only [List.getElem_toArray, List.getElem_cons_succ, List.getElem_cons_zero, Act.put, List.setIfInBounds_toArray, List.set_cons_zero, List.set_cons_succ]
                  refine T_take (v := .pointer (some ⟨xb, 0, none⟩)) rfl rfl (by intro w0; go_simp) ?_
                  try simp only [List.getElem_toArray, List.getElem_cons_succ, List.getElem_cons_zero, Act.put, List.setIfInBounds_toArray, List.set_cons_zero, List.set_cons_succ]
                  refine T_take (v := .pointer (some ⟨xb, 0, none⟩)) rfl rfl (by intro w0; go_simp) ?_
                  try simp only [List.getElem_toArray, List.getElem_cons_succ, List.getElem_cons_zero, Act.put, List.setIfInBounds_toArray, List.set_cons_zero, List.set_cons_succ]
                  refine T_take (v := .pointer (some ⟨xb, 0, none⟩)) rfl rfl (by intro w0; go_simp) ?_
                  try simp only [List.getElem_toArray, List.getElem_cons_succ, List.getElem_cons_zero, Act.put, List.setIfInBounds_toArray, List.set_cons_zero, List.set_cons_succ]
                  refine T_held (v := .slice (some ⟨g, 0, none⟩) n cp) rfl rfl (HS.out _ (Mod.refl _ _).drew) (by intro w0 hSw; (try dsimp only at hSw); go_simp; try with_reducible rfl) ?_
                  try simp only [List.getElem_toArray, List.getElem_cons_succ, List.getElem_cons_zero, Act.put, List.setIfInBounds_toArray, List.set_cons_zero, List.set_cons_succ]
                  refine T_take (v := .int .i64 (j : Int)) rfl rfl (by intro w0; go_simp) ?_
                  try simp only [List.getElem_toArray, List.getElem_cons_succ, List.getElem_cons_zero, Act.put, List.setIfInBounds_toArray, List.set_cons_zero, List.set_cons_succ]
                  refine T_take (v := loV 2 (.slice (some ⟨g, 0, none⟩) n cp) j) rfl rfl (fun w0 => exec_slice_lo Tryz.elV rfl HOR.out rfl j rfl hj w0) ?_
                  try simp only [List.getElem_toArray, List.getElem_cons_succ, List.getElem_cons_zero, Act.put, List.setIfInBounds_toArray, List.set_cons_zero, List.set_cons_succ]
                  (refine T_fork rfl rfl rfl rfl (fun K hK => ?fa1) (fun K hK => ?fb1) <;> (try simp only [List.getElem_toArray, List.getElem_cons_succ, List.getElem_cons_zero]))
                  case' fa1 =>
                    refine wp_build0 Tryz.elV rfl ?_
                    intro W0 v0 HV0 HM0
                    have HMW0 := Lib.hid HM0.out.ofDrew
                    refine hK _ _ (HS.out _ HMW0.out) ?_
                    clear hK K
                    try simp only [List.getElem_toArray, List.getElem_cons_succ, List.getElem_cons_zero, Act.put, List.setIfInBounds_toArray, List.set_cons_zero, List.set_cons_succ]
                    (refine T_fork rfl rfl rfl rfl (fun K hK => ?fc1) (fun K hK => ?fd1) <;> (try simp only [List.getElem_toArray, List.getElem_cons_succ, List.getElem_cons_zero]))
                    case' fc1 =>
                      refine wp_append_reads Tryz.elV (.tmp 56) (.tmp 62) rfl (fun q => wr.heap.size ≤ q) v0 0 ([]) rfl HV0.out (hiV (.slice (some ⟨g, 0, none⟩) n cp) j) (j) ((cellsV es).take (j * 2)) rfl ((HOR.out.keep0 HMW0.out).hi j 2 hj) (by rw [List.length_take, HCL.out]; omega) (fun u hu => HC1.out u (List.mem_of_mem_take hu)) (by omega) (by unfold maxLen; omega) ?_
                      intro v1 W1 h2 h3
                      rw [Nat.zero_add, List.nil_append] at h2
                      have HMW1 : Hid (Mod (fun _ => False) wr W1) := Lib.hid (HMW0.out.trans h3 fun q hq => .inr hq)
                      refine hK _ _ (HS.out _ HMW1.out) ?_
                      clear hK K h3
                      try simp only [List.getElem_toArray, List.getElem_cons_succ, List.getElem_cons_zero, Act.put, List.setIfInBounds_toArray, List.set_cons_zero, List.set_cons_succ]
                      (refine T_do rfl rfl fun K hK => ?_; (try simp only [List.getElem_toArray, List.getElem_cons_succ, List.getElem_cons_zero]))
                      refine wp_build1H Tryz.elV _ rfl [Value.int .u32 v, .slice adl nl cpl] rfl rfl (by decide) (by decide) ?_
                      intro W b HB hbW HM
                      have HMW : Hid (Mod (fun _ => False) wr W) := Lib.hid (HMW1.out.trans HM.out fun _ f => f.elim)
                      have HV1 : Hid (Row W (fun q => wr.heap.size ≤ q ∧ q ≠ b) 52 2 v1 j ((cellsV es).take (j * 2))) := Lib.hid ((show Row W1 (fun q => wr.heap.size ≤ q ∧ q ≠ b) _ _ _ _ _ from ⟨h2.1, fun g hg => ⟨(h2.2 g hg).elim (fun h => h) fun h => Nat.le_trans HMW0.out.size h, by have := h2.lt g hg; omega⟩⟩).keep HM.out fun _ _ f => f)
                      refine hK _ _ (HS.out _ HMW.out) ?_
                      clear hK K h2 HM HMW1 HMW0 HM0 HV0 hbW
                      try simp only [List.getElem_toArray, List.getElem_cons_succ, List.getElem_cons_zero, Act.put, List.setIfInBounds_toArray, List.set_cons_zero, List.set_cons_succ]
                    case' fd1 =>
                      refine wp_build1H Tryz.elV _ rfl [Value.int .u32 v, .slice adl nl cpl] rfl rfl (by decide) (by decide) ?_
                      intro W1 b HB1 hbW HM
                      have HMW1 : Hid (Mod (fun _ => False) wr W1) := Lib.hid (HMW0.out.trans HM.out fun _ f => f.elim)
                      have HV1a : Hid (Row W1 (fun q => wr.heap.size ≤ q ∧ q ≠ b) 52 2 v0 0 []) := Lib.hid ((show Row W0 (fun q => wr.heap.size ≤ q ∧ q ≠ b) _ _ _ _ _ from ⟨HV0.out.1, fun g hg => ⟨HV0.out.2 g hg, by have := HV0.out.lt g hg; omega⟩⟩).keep HM.out fun _ _ f => f)
                      refine hK _ _ (HS.out _ HMW1.out) ?_
                      clear hK K HM
                      try simp only [List.getElem_toArray, List.getElem_cons_succ, List.getElem_cons_zero, Act.put, List.setIfInBounds_toArray, List.set_cons_zero, List.set_cons_succ]
                      (refine T_do rfl rfl fun K hK => ?_; (try simp only [List.getElem_toArray, List.getElem_cons_succ, List.getElem_cons_zero]))
                      refine wp_append_reads Tryz.elV (.tmp 56) (.tmp 62) rfl (fun q => wr.heap.size ≤ q ∧ q ≠ b) v0 0 ([]) rfl HV1a.out (hiV (.slice (some ⟨g, 0, none⟩) n cp) j) (j) ((cellsV es).take (j * 2)) rfl ((HOR.out.keep0 HMW1.out).hi j 2 hj) (by rw [List.length_take, HCL.out]; omega) (fun u hu => HC1.out u (List.mem_of_mem_take hu)) (by omega) (by unfold maxLen; omega) ?_
                      intro v1 W h2 h3
                      rw [Nat.zero_add, List.nil_append] at h2
                      have HMW : Hid (Mod (fun _ => False) wr W) := Lib.hid (HMW1.out.trans h3 fun q hq => .inr hq.1)
                      have HB : Hid (Blk W b 52 [Value.int .u32 v, .slice adl nl cpl]) := Lib.hid (HB1.out.keep h3 fun h => h.2 rfl)
                      have HV1 : Hid (Row W (fun q => wr.heap.size ≤ q ∧ q ≠ b) 52 2 v1 j ((cellsV es).take (j * 2))) := Lib.hid (h2.mono fun q hq => hq.elim (fun h => h) fun h => ⟨Nat.le_trans HMW1.out.size h, by have := HB1.out.lt; omega⟩)
                      refine hK _ _ (HS.out _ HMW.out) ?_
                      clear hK K h2 h3 HMW1 HMW0 HM0 HV0 hbW HV1a HB1
                      try simp only [List.getElem_toArray, List.getElem_cons_succ, List.getElem_cons_zero, Act.put, List.setIfInBounds_toArray, List.set_cons_zero, List.set_cons_succ]
                  case' fb1 =>
                    refine wp_build1H Tryz.elV _ rfl [Value.int .u32 v, .slice adl nl cpl] rfl rfl (by decide) (by decide) ?_
                    intro W0 b HB0 hbW HM0
                    have HMW0 := Lib.hid HM0.out.ofDrew
                    refine hK _ _ (HS.out _ HMW0.out) ?_
                    clear hK K HM0
                    try simp only [List.getElem_toArray, List.getElem_cons_succ, List.getElem_cons_zero, Act.put, List.setIfInBounds_toArray, List.set_cons_zero, List.set_cons_succ]
                    (refine T_do rfl rfl fun K hK => ?_; (try simp only [List.getElem_toArray, List.getElem_cons_succ, List.getElem_cons_zero]))
                    refine wp_build0 Tryz.elV rfl ?_
                    intro W1 v0 HV0 HM
                    have HMW1 : Hid (Mod (fun _ => False) wr W1) := Lib.hid (HMW0.out.trans HM.out fun _ f => f.elim)
                    have HB1 : Hid (Blk W1 b 52 [Value.int .u32 v, .slice adl nl cpl]) := Lib.hid (HB0.out.keep HM.out fun f => f)
                    have HV1a : Hid (Row W1 (fun q => wr.heap.size ≤ q ∧ q ≠ b) 52 2 v0 0 []) := Lib.hid (HV0.out.mono fun q hq => ⟨Nat.le_trans HMW0.out.size hq, by have := HB0.out.lt; omega⟩)
                    refine hK _ _ (HS.out _ HMW1.out) ?_
                    clear hK K HM
                    try simp only [List.getElem_toArray, List.getElem_cons_succ, List.getElem_cons_zero, Act.put, List.setIfInBounds_toArray, List.set_cons_zero, List.set_cons_succ]
                    (refine T_do rfl rfl fun K hK => ?_; (try simp only [List.getElem_toArray, List.getElem_cons_succ, List.getElem_cons_zero]))
                    refine wp_append_reads Tryz.elV (.tmp 56) (.tmp 62) rfl (fun q => wr.heap.size ≤ q ∧ q ≠ b) v0 0 ([]) rfl HV1a.out (hiV (.slice (some ⟨g, 0, none⟩) n cp) j) (j) ((cellsV es).take (j * 2)) rfl ((HOR.out.keep0 HMW1.out).hi j 2 hj) (by rw [List.length_take, HCL.out]; omega) (fun u hu => HC1.out u (List.mem_of_mem_take hu)) (by omega) (by unfold maxLen; omega) ?_
                    intro v1 W h2 h3
                    rw [Nat.zero_add, List.nil_append] at h2
                    have HMW : Hid (Mod (fun _ => False) wr W) := Lib.hid (HMW1.out.trans h3 fun q hq => .inr hq.1)
                    have HB : Hid (Blk W b 52 [Value.int .u32 v, .slice adl nl cpl]) := Lib.hid (HB1.out.keep h3 fun h => h.2 rfl)
                    have HV1 : Hid (Row W (fun q => wr.heap.size ≤ q ∧ q ≠ b) 52 2 v1 j ((cellsV es).take (j * 2))) := Lib.hid (h2.mono fun q hq => hq.elim (fun h => h) fun h => ⟨Nat.le_trans HMW1.out.size h, by have := HB1.out.lt; omega⟩)
                    refine hK _ _ (HS.out _ HMW.out) ?_
                    clear hK K h2 h3 HMW1 HMW0 HV0 hbW HV1a HB1 HB0
                    try simp only [List.getElem_toArray, List.getElem_cons_succ, List.getElem_cons_zero, Act.put, List.setIfInBounds_toArray, List.set_cons_zero, List.set_cons_succ]
                  all_goals
                    (refine T_do rfl rfl fun K hK => ?_; (try simp only [List.getElem_toArray, List.getElem_cons_succ, List.getElem_cons_zero]))
                    refine wp_append_reads Tryz.elV (.tmp 63) (.tmp 67) rfl (fun q => wr.heap.size ≤ q ∧ q ≠ b) v1 j ((cellsV es).take (j * 2)) rfl HV1.out (.slice (some ⟨b, 0, none⟩) 1 1) (1) ([Value.int .u32 v, .slice adl nl cpl]) rfl (HB.out.reads1) (rfl) (HRO.out) (by omega) (by unfold maxLen; omega) ?_
                    intro v2 W2 h4 h5
                    have HMW2 : Hid (Mod (fun _ => False) wr W2) := Lib.hid (HMW.out.trans h5 fun q hq => .inr hq.1)
                    have HV2 : Hid (Row W2 (fun q => wr.heap.size ≤ q) 52 2 v2 (j + 1) ((cellsV es).take (j * 2) ++ [Value.int .u32 v, .slice adl nl cpl])) := Lib.hid (h4.mono fun q hq => hq.elim (fun h => h.1) fun h => Nat.le_trans HMW.out.size h)
                    refine hK _ _ (HS.out _ HMW2.out) ?_
                    clear hK K h4 h5
                    try simp only [List.getElem_toArray, List.getElem_cons_succ, List.getElem_cons_zero, Act.put, List.setIfInBounds_toArray, List.set_cons_zero, List.set_cons_succ]
                    (refine T_do rfl rfl fun K hK => ?_; (try simp only [List.getElem_toArray, List.getElem_cons_succ, List.getElem_cons_zero]))
                    refine wp_append_reads Tryz.elV (.tmp 68) (.tmp 74) rfl (fun q => wr.heap.size ≤ q) v2 (j + 1) ((cellsV es).take (j * 2) ++ [Value.int .u32 v, .slice adl nl cpl]) rfl HV2.out (loV 2 (.slice (some ⟨g, 0, none⟩) n cp) j) (n - j) ((cellsV es).drop (j * 2)) rfl ((HOR.out.keep0 HMW2.out).lo j 2 hj) (by rw [List.length_drop, HCL.out]; omega) (fun u hu => HC1.out u (List.mem_of_mem_drop hu)) (by omega) (by unfold maxLen; omega) ?_
                    intro v3 W3 h6 h7
                    have HMW3 : Hid (Mod (fun _ => False) wr W3) := Lib.hid (HMW2.out.trans h7 fun q hq => .inr hq)
                    have H6 : Hid (Row W3 (fun q => wr.heap.size ≤ q) 52 2 v3 (j + 1 + (n - j)) (((cellsV es).take (j * 2) ++ [Value.int .u32 v, .slice adl nl cpl]) ++ (cellsV es).drop (j * 2))) := Lib.hid (h6.mono fun q hq => hq.elim (fun h => h) fun h => Nat.le_trans HMW2.out.size h)
                    have HO3 : Hid (v3.oneCell' = true) := Lib.hid (by obtain ⟨_, _, e3, _⟩ := h6.form; rw [e3]; rfl)
                    have HT3 := Lib.hid (HT1.out.keep HMW3.out (fun _ _ f => f) fun f => f)
                    refine hK _ _ (HS.out _ HMW3.out) ?_
                    clear hK K h6 h7 HMW2 HV2 HV1 HMW HB
                    try simp only [List.getElem_toArray, List.getElem_cons_succ, List.getElem_cons_zero, Act.put, List.setIfInBounds_toArray, List.set_cons_zero, List.set_cons_succ]
                    repeat (first | (refine T_take (v := ?_) rfl rfl ?_ ?_; rotate_left; (focus (intro w0; go_simp; try with_reducible rfl)); simp only [List.getElem_toArray, List.getElem_cons_succ, List.getElem_cons_zero, Act.put, List.setIfInBounds_toArray, List.set_cons_zero, List.set_cons_succ]))
                    (refine T_end rfl rfl rfl fun K hK => ?_; (try simp only [List.getElem_toArray, List.getElem_cons_succ, List.getElem_cons_zero]))
                    refine wp_store_blk1 _ _ _ rfl xb 0 35 _ v3 rfl rfl HT3.out.tab (show 0 < 3 by decide) sliceVSz HO3.out ?_
                    intro w9 HB9 HM9
                    have HFIN := Lib.hid (insDone HT3.out HR.out HFL.out (HM1.out.trans HMW3.out fun _ f => f.elim) HXL.out HAT.out H6.out HL.out hj HB9.out HM9.out (Nat.le_trans HM1.out.size (Nat.le_refl _)))
                    refine hK _ _ ?_
                    clear hK K HB9 HM9 H6 HT3 HMW3 HO3
                    try simp only [List.getElem_toArray, List.getElem_cons_succ, List.getElem_cons_zero, Act.put, List.setIfInBounds_toArray, List.set_cons_zero, List.set_cons_succ]
                    refine T_nil ?_
                    go_wp2
                    go_ret
                    rw [HC.out, HE.out, HCN.out, if_pos rfl]
                    exact ⟨rfl, ⟨v3, HFIN.out.1⟩, HFIN.out.2⟩
              · obtain rfl : j = n := by omega
                have HAT : Hid (atV es v = j) := Lib.hid (atV_at es v j (by have := HL.out; omega) HALL.out fun x hx => by have := (List.getElem?_eq_some_iff.1 hx).1; have := HL.out; omega)
                go_wp2_with fail
                have HOR : Hid (Reads wr (.slice ad j cp) j (cellsV es)) := Lib.hid (by have h := HT1.out.row.reads; rw [← HL.out] at h; exact h)
                have HCL : Hid ((cellsV es).length = j * 2) := Lib.hid (by rw [cellsV_len, HL.out])
                have HC1 := Lib.hid HT1.out.one
                have HRO : Hid (∀ u ∈ [Value.int .u32 v, .slice adl nl cpl], u.oneCell' = true) := Lib.hid fun u hu => by
                  simp at hu
                  rcases hu with rfl | rfl <;> rfl
                have HS : Hid (∀ W : World, Mod (fun _ => False) wr W → W.cell? ⟨xb, 0, none⟩ = some (.slice ad j cp)) := Lib.hid fun W hW => hW.cell (fun f => f) c0
                refine wp_region_T [23] (.c 0 0 (.c 2 0 (.c 3 0 (.c 4 0 (.c 5 1 (.c 6 0 (.c 7 0 (.c 9 0 (.c 10 0 (.c 11 0 (.c 14 0 (.c 15 0 (.c 16 0 (.c 17 1 (.c 18 0 (.c 19 0 (.f 1 12 (.f 8 12 (.c 12 2 (.c 13 2 (.c 20 2 (.c 21 0 (.c 22 0 (.c 23 3 .n)))))) (.c 8 2 (.c 13 2 (.c 20 2 (.c 21 0 (.c 22 0 (.c 23 3 .n))))))) (.c 1 2 (.c 8 2 (.c 13 2 (.c 20 2 (.c 21 0 (.c 22 0 (.c 23 3 .n)))))))))))))))))))))))) (fun w' : World => w'.cell? ⟨xb, 0, none⟩ = some (.slice ad j cp)) (by kernel_rfl) (by kernel_rfl) (fun d _ _ _ _ h => by cases d <;> exact h) ?_
                refine T_take (v := .pointer (some ⟨xb, 0, none⟩)) rfl rfl (by intro w0; go_simp) ?_
                try simp only [List.getElem_toArray, List.getElem_cons_succ, List.getElem_cons_zero, Act.put, List.setIfInBounds_toArray, List.set_cons_zero, List.set_cons_succ]
                refine T_take (v := .pointer (some ⟨xb, 0, none⟩)) rfl rfl (by intro w0; go_simp) ?_
                try simp only [List.getElem_toArray, List.getElem_cons_succ, List.getElem_cons_zero, Act.put, List.setIfInBounds_toArray, List.set_cons_zero, List.set_cons_succ]
                refine T_take (v := .pointer (some ⟨xb, 0, none⟩)) rfl rfl (by intro w0; go_simp) ?_
                try simp only [List.getElem_toArray, List.getElem_cons_succ, List.getElem_cons_zero, Act.put, List.setIfInBounds_toArray, List.set_cons_zero, List.set_cons_succ]
                refine T_take (v := .pointer (some ⟨xb, 0, none⟩)) rfl rfl (by intro w0; go_simp) ?_
                try simp only [List.getElem_toArray, List.getElem_cons_succ, List.getElem_cons_zero, Act.put, List.setIfInBounds_toArray, List.set_cons_zero, List.set_cons_succ]
                refine T_held (v := .slice ad j cp) rfl rfl (HS.out _ (Mod.refl _ _).drew) (by intro w0 hSw; (try dsimp only at hSw); go_simp; try with_reducible rfl) ?_
                try simp only [List.getElem_toArray, List.getElem_cons_succ, List.getElem_cons_zero, Act.put, List.setIfInBounds_toArray, List.set_cons_zero, List.set_cons_succ]
                refine T_take (v := .int .i64 (j : Int)) rfl rfl (by intro w0; go_simp) ?_
                try simp only [List.getElem_toArray, List.getElem_cons_succ, List.getElem_cons_zero, Act.put, List.setIfInBounds_toArray, List.set_cons_zero, List.set_cons_succ]
                refine T_take (v := hiV (.slice ad j cp) j) rfl rfl (fun w0 => exec_slice_hi Tryz.elV rfl HOR.out rfl j rfl hj w0) ?_
                try simp only [List.getElem_toArray, List.getElem_cons_succ, List.getElem_cons_zero, Act.put, List.setIfInBounds_toArray, List.set_cons_zero, List.set_cons_succ]
                refine T_take (v := .int .u32 v) rfl rfl (by intro w0; go_simp) ?_
                try simp only [List.getElem_toArray, List.getElem_cons_succ, List.getElem_cons_zero, Act.put, List.setIfInBounds_toArray, List.set_cons_zero, List.set_cons_succ]
                refine T_take (v := .slice adl nl cpl) rfl rfl (by intro w0; go_simp) ?_
                try simp only [List.getElem_toArray, List.getElem_cons_succ, List.getElem_cons_zero, Act.put, List.setIfInBounds_toArray, List.set_cons_zero, List.set_cons_succ]
                refine T_take (v := .agg ([Value.int .u32 v, .slice adl nl cpl]).toArray) rfl rfl (fun w0 => exec_build_v rfl v adl nl cpl rfl rfl w0) ?_
                try simp only [List.getElem_toArray, List.getElem_cons_succ, List.getElem_cons_zero, Act.put, List.setIfInBounds_toArray, List.set_cons_zero, List.set_cons_succ]
                refine T_take (v := .pointer (some ⟨xb, 0, none⟩)) rfl rfl (by intro w0; go_simp) ?_
                try simp only [List.getElem_toArray, List.getElem_cons_succ, List.getElem_cons_zero, Act.put, List.setIfInBounds_toArray, List.set_cons_zero, List.set_cons_succ]
                refine T_take (v := .pointer (some ⟨xb, 0, none⟩)) rfl rfl (by intro w0; go_simp) ?_
                try simp only [List.getElem_toArray, List.getElem_cons_succ, List.getElem_cons_zero, Act.put, List.setIfInBounds_toArray, List.set_cons_zero, List.set_cons_succ]
                refine T_take (v := .pointer (some ⟨xb, 0, none⟩)) rfl rfl (by intro w0; go_simp) ?_
                try simp only [List.getElem_toArray, List.getElem_cons_succ, List.getElem_cons_zero, Act.put, List.setIfInBounds_toArray, List.set_cons_zero, List.set_cons_succ]
                refine T_held (v := .slice ad j cp) rfl rfl (HS.out _ (Mod.refl _ _).drew) (by intro w0 hSw; (try dsimp only at hSw); go_simp; try with_reducible rfl) ?_
                try simp only [List.getElem_toArray, List.getElem_cons_succ, List.getElem_cons_zero, Act.put, List.setIfInBounds_toArray, List.set_cons_zero, List.set_cons_succ]
                refine T_take (v := .int .i64 (j : Int)) rfl rfl (by intro w0; go_simp) ?_
                try simp only [List.getElem_toArray, List.getElem_cons_succ, List.getElem_cons_zero, Act.put, List.setIfInBounds_toArray, List.set_cons_zero, List.set_cons_succ]
                refine T_take (v := loV 2 (.slice ad j cp) j) rfl rfl (fun w0 => exec_slice_lo Tryz.elV rfl HOR.out rfl j rfl hj w0) ?_
                try simp only [List.getElem_toArray, List.getElem_cons_succ, List.getElem_cons_zero, Act.put, List.setIfInBounds_toArray, List.set_cons_zero, List.set_cons_succ]
                (refine T_fork rfl rfl rfl rfl (fun K hK => ?fa2) (fun K hK => ?fb2) <;> (try simp only [List.getElem_toArray, List.getElem_cons_succ, List.getElem_cons_zero]))
                case' fa2 =>
                  refine wp_build0 Tryz.elV rfl ?_
                  intro W0 v0 HV0 HM0
                  have HMW0 := Lib.hid HM0.out.ofDrew
                  refine hK _ _ (HS.out _ HMW0.out) ?_
                  clear hK K
                  try simp only [List.getElem_toArray, List.getElem_cons_succ, List.getElem_cons_zero, Act.put, List.setIfInBounds_toArray, List.set_cons_zero, List.set_cons_succ]
                  (refine T_fork rfl rfl rfl rfl (fun K hK => ?fc2) (fun K hK => ?fd2) <;> (try simp only [List.getElem_toArray, List.getElem_cons_succ, List.getElem_cons_zero]))
                  case' fc2 =>
                    refine wp_append_reads Tryz.elV (.tmp 56) (.tmp 62) rfl (fun q => wr.heap.size ≤ q) v0 0 ([]) rfl HV0.out (hiV (.slice ad j cp) j) (j) ((cellsV es).take (j * 2)) rfl ((HOR.out.keep0 HMW0.out).hi j 2 hj) (by rw [List.length_take, HCL.out]; omega) (fun u hu => HC1.out u (List.mem_of_mem_take hu)) (by omega) (by unfold maxLen; omega) ?_
                    intro v1 W1 h2 h3
                    rw [Nat.zero_add, List.nil_append] at h2
                    have HMW1 : Hid (Mod (fun _ => False) wr W1) := Lib.hid (HMW0.out.trans h3 fun q hq => .inr hq)
                    refine hK _ _ (HS.out _ HMW1.out) ?_
                    clear hK K h3
                    try simp only [List.getElem_toArray, List.getElem_cons_succ, List.getElem_cons_zero, Act.put, List.setIfInBounds_toArray, List.set_cons_zero, List.set_cons_succ]
                    (refine T_do rfl rfl fun K hK => ?_; (try simp only [List.getElem_toArray, List.getElem_cons_succ, List.getElem_cons_zero]))
                    refine wp_build1H Tryz.elV _ rfl [Value.int .u32 v, .slice adl nl cpl] rfl rfl (by decide) (by decide) ?_
                    intro W b HB hbW HM
                    have HMW : Hid (Mod (fun _ => False) wr W) := Lib.hid (HMW1.out.trans HM.out fun _ f => f.elim)
                    have HV1 : Hid (Row W (fun q => wr.heap.size ≤ q ∧ q ≠ b) 52 2 v1 j ((cellsV es).take (j * 2))) := Lib.hid ((show Row W1 (fun q => wr.heap.size ≤ q ∧ q ≠ b) _ _ _ _ _ from ⟨h2.1, fun g hg => ⟨(h2.2 g hg).elim (fun h => h) fun h => Nat.le_trans HMW0.out.size h, by have := h2.lt g hg; omega⟩⟩).keep HM.out fun _ _ f => f)
                    refine hK _ _ (HS.out _ HMW.out) ?_
                    clear hK K h2 HM HMW1 HMW0 HM0 HV0 hbW
                    try simp only [List.getElem_toArray, List.getElem_cons_succ, List.getElem_cons_zero, Act.put, List.setIfInBounds_toArray, List.set_cons_zero, List.set_cons_succ]
                  case' fd2 =>
                    refine wp_build1H Tryz.elV _ rfl [Value.int .u32 v, .slice adl nl cpl] rfl rfl (by decide) (by decide) ?_
                    intro W1 b HB1 hbW HM
                    have HMW1 : Hid (Mod (fun _ => False) wr W1) := Lib.hid (HMW0.out.trans HM.out fun _ f => f.elim)
                    have HV1a : Hid (Row W1 (fun q => wr.heap.size ≤ q ∧ q ≠ b) 52 2 v0 0 []) := Lib.hid ((show Row W0 (fun q => wr.heap.size ≤ q ∧ q ≠ b) _ _ _ _ _ from ⟨HV0.out.1, fun g hg => ⟨HV0.out.2 g hg, by have := HV0.out.lt g hg; omega⟩⟩).keep HM.out fun _ _ f => f)
                    refine hK _ _ (HS.out _ HMW1.out) ?_
                    clear hK K HM
                    try simp only [List.getElem_toArray, List.getElem_cons_succ, List.getElem_cons_zero, Act.put, List.setIfInBounds_toArray, List.set_cons_zero, List.set_cons_succ]
                    (refine T_do rfl rfl fun K hK => ?_; (try simp only [List.getElem_toArray, List.getElem_cons_succ, List.getElem_cons_zero]))
                    refine wp_append_reads Tryz.elV (.tmp 56) (.tmp 62) rfl (fun q => wr.heap.size ≤ q ∧ q ≠ b) v0 0 ([]) rfl HV1a.out (hiV (.slice ad j cp) j) (j) ((cellsV es).take (j * 2)) rfl ((HOR.out.keep0 HMW1.out).hi j 2 hj) (by rw [List.length_take, HCL.out]; omega) (fun u hu => HC1.out u (List.mem_of_mem_take hu)) (by omega) (by unfold maxLen; omega) ?_
                    intro v1 W h2 h3
                    rw [Nat.zero_add, List.nil_append] at h2
                    have HMW : Hid (Mod (fun _ => False) wr W) := Lib.hid (HMW1.out.trans h3 fun q hq => .inr hq.1)
                    have HB : Hid (Blk W b 52 [Value.int .u32 v, .slice adl nl cpl]) := Lib.hid (HB1.out.keep h3 fun h => h.2 rfl)
                    have HV1 : Hid (Row W (fun q => wr.heap.size ≤ q ∧ q ≠ b) 52 2 v1 j ((cellsV es).take (j * 2))) := Lib.hid (h2.mono fun q hq => hq.elim (fun h => h) fun h => ⟨Nat.le_trans HMW1.out.size h, by have := HB1.out.lt; omega⟩)
                    refine hK _ _ (HS.out _ HMW.out) ?_
                    clear hK K h2 h3 HMW1 HMW0 HM0 HV0 hbW HV1a HB1
                    try simp only [List.getElem_toArray, List.getElem_cons_succ, List.getElem_cons_zero, Act.put, List.setIfInBounds_toArray, List.set_cons_zero, List.set_cons_succ]
                case' fb2 =>
                  refine wp_build1H Tryz.elV _ rfl [Value.int .u32 v, .slice adl nl cpl] rfl rfl (by decide) (by decide) ?_
                  intro W0 b HB0 hbW HM0
                  have HMW0 := Lib.hid HM0.out.ofDrew
                  refine hK _ _ (HS.out _ HMW0.out) ?_
                  clear hK K HM0
                  try simp only [List.getElem_toArray, List.getElem_cons_succ, List.getElem_cons_zero, Act.put, List.setIfInBounds_toArray, List.set_cons_zero, List.set_cons_succ]
                  (refine T_do rfl rfl fun K hK => ?_; (try simp only [List.getElem_toArray, List.getElem_cons_succ, List.getElem_cons_zero]))
                  refine wp_build0 Tryz.elV rfl ?_
                  intro W1 v0 HV0 HM
                  have HMW1 : Hid (Mod (fun _ => False) wr W1) := Lib.hid (HMW0.out.trans HM.out fun _ f => f.elim)
                  have HB1 : Hid (Blk W1 b 52 [Value.int .u32 v, .slice adl nl cpl]) := Lib.hid (HB0.out.keep HM.out fun f => f)
                  have HV1a : Hid (Row W1 (fun q => wr.heap.size ≤ q ∧ q ≠ b) 52 2 v0 0 []) := Lib.hid (HV0.out.mono fun q hq => ⟨Nat.le_trans HMW0.out.size hq, by have := HB0.out.lt; omega⟩)
                  refine hK _ _ (HS.out _ HMW1.out) ?_
                  clear hK K HM
                  try simp only [List.getElem_toArray, List.getElem_cons_succ, List.getElem_cons_zero, Act.put, List.setIfInBounds_toArray, List.set_cons_zero, List.set_cons_succ]
                  (refine T_do rfl rfl fun K hK => ?_; (try simp only [List.getElem_toArray, List.getElem_cons_succ, List.getElem_cons_zero]))
                  refine wp_append_reads Tryz.elV (.tmp 56) (.tmp 62) rfl (fun q => wr.heap.size ≤ q ∧ q ≠ b) v0 0 ([]) rfl HV1a.out (hiV (.slice ad j cp) j) (j) ((cellsV es).take (j * 2)) rfl ((HOR.out.keep0 HMW1.out).hi j 2 hj) (by rw [List.length_take, HCL.out]; omega) (fun u hu => HC1.out u (List.mem_of_mem_take hu)) (by omega) (by unfold maxLen; omega) ?_
                  intro v1 W h2 h3
                  rw [Nat.zero_add, List.nil_append] at h2
                  have HMW : Hid (Mod (fun _ => False) wr W) := Lib.hid (HMW1.out.trans h3 fun q hq => .inr hq.1)
                  have HB : Hid (Blk W b 52 [Value.int .u32 v, .slice adl nl cpl]) := Lib.hid (HB1.out.keep h3 fun h => h.2 rfl)
                  have HV1 : Hid (Row W (fun q => wr.heap.size ≤ q ∧ q ≠ b) 52 2 v1 j ((cellsV es).take (j * 2))) := Lib.hid (h2.mono fun q hq => hq.elim (fun h => h) fun h => ⟨Nat.le_trans HMW1.out.size h, by have := HB1.out.lt; omega⟩)
                  refine hK _ _ (HS.out _ HMW.out) ?_
                  clear hK K h2 h3 HMW1 HMW0 HV0 hbW HV1a HB1 HB0
                  try simp only [List.getElem_toArray, List.getElem_cons_succ, List.getElem_cons_zero, Act.put, List.setIfInBounds_toArray, List.set_cons_zero, List.set_cons_succ]
                all_goals
                  (refine T_do rfl rfl fun K hK => ?_; (try simp only [List.getElem_toArray, List.getElem_cons_succ, List.getElem_cons_zero]))
                  refine wp_append_reads Tryz.elV (.tmp 63) (.tmp 67) rfl (fun q => wr.heap.size ≤ q ∧ q ≠ b) v1 j ((cellsV es).take (j * 2)) rfl HV1.out (.slice (some ⟨b, 0, none⟩) 1 1) (1) ([Value.int .u32 v, .slice adl nl cpl]) rfl (HB.out.reads1) (rfl) (HRO.out) (by omega) (by unfold maxLen; omega) ?_
                  intro v2 W2 h4 h5
                  have HMW2 : Hid (Mod (fun _ => False) wr W2) := Lib.hid (HMW.out.trans h5 fun q hq => .inr hq.1)
                  have HV2 : Hid (Row W2 (fun q => wr.heap.size ≤ q) 52 2 v2 (j + 1) ((cellsV es).take (j * 2) ++ [Value.int .u32 v, .slice adl nl cpl])) := Lib.hid (h4.mono fun q hq => hq.elim (fun h => h.1) fun h => Nat.le_trans HMW.out.size h)
                  refine hK _ _ (HS.out _ HMW2.out) ?_
                  clear hK K h4 h5
                  try simp only [List.getElem_toArray, List.getElem_cons_succ, List.getElem_cons_zero, Act.put, List.setIfInBounds_toArray, List.set_cons_zero, List.set_cons_succ]
                  (refine T_do rfl rfl fun K hK => ?_; (try simp only [List.getElem_toArray, List.getElem_cons_succ, List.getElem_cons_zero]))
                  refine wp_append_reads Tryz.elV (.tmp 68) (.tmp 74) rfl (fun q => wr.heap.size ≤ q) v2 (j + 1) ((cellsV es).take (j * 2) ++ [Value.int .u32 v, .slice adl nl cpl]) rfl HV2.out (loV 2 (.slice ad j cp) j) (j - j) ((cellsV es).drop (j * 2)) rfl ((HOR.out.keep0 HMW2.out).lo j 2 hj) (by rw [List.length_drop, HCL.out]; omega) (fun u hu => HC1.out u (List.mem_of_mem_drop hu)) (by omega) (by unfold maxLen; omega) ?_
                  intro v3 W3 h6 h7
                  have HMW3 : Hid (Mod (fun _ => False) wr W3) := Lib.hid (HMW2.out.trans h7 fun q hq => .inr hq)
                  have H6 : Hid (Row W3 (fun q => wr.heap.size ≤ q) 52 2 v3 (j + 1 + (j - j)) (((cellsV es).take (j * 2) ++ [Value.int .u32 v, .slice adl nl cpl]) ++ (cellsV es).drop (j * 2))) := Lib.hid (h6.mono fun q hq => hq.elim (fun h => h) fun h => Nat.le_trans HMW2.out.size h)
                  have HO3 : Hid (v3.oneCell' = true) := Lib.hid (by obtain ⟨_, _, e3, _⟩ := h6.form; rw [e3]; rfl)
                  have HT3 := Lib.hid (HT1.out.keep HMW3.out (fun _ _ f => f) fun f => f)
                  refine hK _ _ (HS.out _ HMW3.out) ?_
                  clear hK K h6 h7 HMW2 HV2 HV1 HMW HB
                  try simp only [List.getElem_toArray, List.getElem_cons_succ, List.getElem_cons_zero, Act.put, List.setIfInBounds_toArray, List.set_cons_zero, List.set_cons_succ]
                  repeat (first | (refine T_take (v := ?_) rfl rfl ?_ ?_; rotate_left; (focus (intro w0; go_simp; try with_reducible rfl)); simp only [List.getElem_toArray, List.getElem_cons_succ, List.getElem_cons_zero, Act.put, List.setIfInBounds_toArray, List.set_cons_zero, List.set_cons_succ]))
                  (refine T_end rfl rfl rfl fun K hK => ?_; (try simp only [List.getElem_toArray, List.getElem_cons_succ, List.getElem_cons_zero]))
                  refine wp_store_blk1 _ _ _ rfl xb 0 35 _ v3 rfl rfl HT3.out.tab (show 0 < 3 by decide) sliceVSz HO3.out ?_
                  intro w9 HB9 HM9
                  have HFIN := Lib.hid (insDone HT3.out HR.out HFL.out (HM1.out.trans HMW3.out fun _ f => f.elim) HXL.out HAT.out H6.out HL.out hj HB9.out HM9.out (Nat.le_trans HM1.out.size (Nat.le_refl _)))
                  refine hK _ _ ?_
                  clear hK K HB9 HM9 H6 HT3 HMW3 HO3
                  try simp only [List.getElem_toArray, List.getElem_cons_succ, List.getElem_cons_zero, Act.put, List.setIfInBounds_toArray, List.set_cons_zero, List.set_cons_succ]
                  refine T_nil ?_
                  go_wp2
                  go_ret
                  rw [HC.out, HE.out, HCN.out, if_pos rfl]
                  exact ⟨rfl, ⟨v3, HFIN.out.1⟩, HFIN.out.2⟩
          · subst his
            have hgd : decide (Sr.gap now v ≤ 0) = false := decide_eq_false hgp
            clear hgp
            go_wp2_with (go_at_call 24; refine (refGap_any _ _ hn0 hn1 hv0 hv1 _).mono ?_; rintro e w' ⟨rfl, rfl⟩)
            go_loopw [7] (fun iv wr => ∃ j : Nat, j ≤ n ∧ iv = .int .i64 (j : Int) ∧ wr = wb ∧ ∀ (i : Nat) (x : VE), i < j → es[i]? = some x → x.n < v) (fun iv _ => n - (intOf iv).toNat)
            case atStart => exact ⟨0, Nat.zero_le _, rfl, rfl, fun i x hi => by omega⟩
            case round =>
              obtain ⟨j, hj, rfl, hwr, hall⟩ := hrel
              subst hwr
              have HALL := Lib.hid hall
              clear hall
              by_cases hlt : j < n
              · obtain ⟨g, rfl, _, _, hc⟩ := HG.out (by omega)
                obtain ⟨e, he⟩ : ∃ e, es[j]? = some e := ⟨_, List.getElem?_eq_getElem (by have := HL.out; omega)⟩
                have cn := HM1.out.cell (fun f => f) (hc _ _ (cellsV_get es j e he).1)
                have HEE := Lib.hid he
                clear hc he
                by_cases hev : e.n < v
                · have hdv : decide (e.n < v) = true := decide_eq_true hev
                  have HA2 : Hid (∀ (i : Nat) (x : VE), i < j + 1 → es[i]? = some x → x.n < v) := Lib.hid fun i x hi hx => by
                    rcases Nat.lt_or_ge i j with h | h
                    · exact HALL.out i x h hx
                    · obtain rfl : i = j := by omega
                      rw [HEE.out] at hx
                      cases hx
                      exact hev
                  clear hev
                  go_wp2
                  go_roundw
                  case rel => exact ⟨j + 1, by omega, by go_num, by first | rfl | trivial, HA2.out⟩
                  case measure => simp [intOf]; omega
                · have hdv : decide (e.n < v) = false := decide_eq_false hev
                  have HAT : Hid (atV es v = j) := Lib.hid (atV_at es v j (by have := HL.out; omega) HALL.out fun x hx => by rw [HEE.out] at hx; cases hx; exact hev)
                  clear hev
                  go_wp2_with fail
                  have HOR : Hid (Reads wr (.slice (some ⟨g, 0, none⟩) n cp) n (cellsV es)) := Lib.hid (by have h := HT1.out.row.reads; rw [← HL.out] at h; exact h)
                  have HCL : Hid ((cellsV es).length = n * 2) := Lib.hid (by rw [cellsV_len, HL.out])
                  have HC1 := Lib.hid HT1.out.one
                  have HRO : Hid (∀ u ∈ [Value.int .u32 v, .slice adl nl cpl], u.oneCell' = true) := Lib.hid fun u hu => by
                    simp at hu
                    rcases hu with rfl | rfl <;> rfl
                  have HS : Hid (∀ W : World, Mod (fun _ => False) wr W → W.cell? ⟨xb, 0, none⟩ = some (.slice (some ⟨g, 0, none⟩) n cp)) := Lib.hid fun W hW => hW.cell (fun f => f) c0
                  refine wp_region_T [23] (.c 0 0 (.c 2 0 (.c 3 0 (.c 4 0 (.c 5 1 (.c 6 0 (.c 7 0 (.c 9 0 (.c 10 0 (.c 11 0 (.c 14 0 (.c 15 0 (.c 16 0 (.c 17 1 (.c 18 0 (.c 19 0 (.f 1 12 (.f 8 12 (.c 12 2 (.c 13 2 (.c 20 2 (.c 21 0 (.c 22 0 (.c 23 3 .n)))))) (.c 8 2 (.c 13 2 (.c 20 2 (.c 21 0 (.c 22 0 (.c 23 3 .n))))))) (.c 1 2 (.c 8 2 (.c 13 2 (.c 20 2 (.c 21 0 (.c 22 0 (.c 23 3 .n)))))))))))))))))))))))) (fun w' : World => w'.cell? ⟨xb, 0, none⟩ = some (.slice (some ⟨g, 0, none⟩) n cp)) (by kernel_rfl) (by kernel_rfl) (fun d _ _ _ _ h => by cases d <;> exact h) ?_
                  refine T_take (v := .pointer (some ⟨xb, 0, none⟩)) rfl rfl (by intro w0; go_simp) ?_
                  try simp only [List.getElem_toArray, List.getElem_cons_succ, List.getElem_cons_zero, Act.put, List.setIfInBounds_toArray, List.set_cons_zero, List.set_cons_succ]
                  refine T_take (v := .pointer (some ⟨xb, 0, none⟩)) rfl rfl (by intro w0; go_simp) ?_
                  try simp only [List.getElem_toArray, List.getElem_cons_succ, List.getElem_cons_zero, Act.put, List.setIfInBounds_toArray, List.set_cons_zero, List.set_cons_succ]
                  refine T_take (v := .pointer (some ⟨xb, 0, none⟩)) rfl rfl (by intro w0; go_simp) ?_
                  try simp only [List.getElem_toArray, List.getElem_cons_succ, List.getElem_cons_zero, Act.put, List.setIfInBounds_toArray, List.set_cons_zero, List.set_cons_succ]
                  refine T_take (v := .pointer (some ⟨xb, 0, none⟩)) rfl rfl (by intro w0; go_simp) ?_
                  try simp only [List.getElem_toArray, List.getElem_cons_succ, List.getElem_cons_zero, Act.put, List.setIfInBounds_toArray, List.set_cons_zero, List.set_cons_succ]
                  refine T_held (v := .slice (some ⟨g, 0, none⟩) n cp) rfl rfl (HS.out _ (Mod.refl _ _).drew) (by intro w0 hSw; (try dsimp only at hSw); go_simp; try with_reducible rfl) ?_
                  try simp only [List.getElem_toArray, List.getElem_cons_succ, List.getElem_cons_zero, Act.put, List.setIfInBounds_toArray, List.set_cons_zero, List.set_cons_succ]
                  refine T_take (v := .int .i64 (j : Int)) rfl rfl (by intro w0; go_simp) ?_
                  try simp only [List.getElem_toArray, List.getElem_cons_succ, List.getElem_cons_zero, Act.put, List.setIfInBounds_toArray, List.set_cons_zero, List.set_cons_succ]
                  refine T_take (v := hiV (.slice (some ⟨g, 0, none⟩) n cp) j) rfl rfl (fun w0 => exec_slice_hi Tryz.elV rfl HOR.out rfl j rfl hj w0) ?_
                  try simp only [List.getElem_toArray, List.getElem_cons_succ, List.getElem_cons_zero, Act.put, List.setIfInBounds_toArray, List.set_cons_zero, List.set_cons_succ]
                  refine T_take (v := .int .u32 v) rfl rfl (by intro w0; go_simp) ?_
                  try simp only [List.getElem_toArray, List.getElem_cons_succ, List.getElem_cons_zero, Act.put, List.setIfInBounds_toArray, List.set_cons_zero, List.set_cons_succ]
                  refine T_take (v := .slice adl nl cpl) rfl rfl (by intro w0; go_simp) ?_
                  try simp only [List.getElem_toArray, List.getElem_cons_succ, List.getElem_cons_zero, Act.put, List.setIfInBounds_toArray, List.set_cons_zero, List.set_cons_succ]
                  refine T_take (v := .agg ([Value.int .u32 v, .slice adl nl cpl]).toArray) rfl rfl (fun w0 => exec_build_v rfl v adl nl cpl rfl rfl w0) ?_
                  try simp only [List.getElem_toArray, List.getElem_cons_succ, List.getElem_cons_zero, Act.put, List.setIfInBounds_toArray, List.set_cons_zero, List.set_cons_succ]
                  refine T_take (v := .pointer (some ⟨xb, 0, none⟩)) rfl rfl (by intro w0; go_simp) ?_
                  try simp only [List.getElem_toArray, List.getElem_cons_succ, List.getElem_cons_zero, Act.put, List.setIfInBounds_toArray, List.set_cons_zero, List.set_cons_succ]
                  refine T_take (v := .pointer (some ⟨xb, 0, none⟩)) rfl rfl (by intro w0; go_simp) ?_
                  try simp only [List.getElem_toArray, List.getElem_cons_succ, List.getElem_cons_zero, Act.put, List.setIfInBounds_toArray, List.set_cons_zero, List.set_cons_succ]
                  refine T_take (v := .pointer (some ⟨xb, 0, none⟩)) rfl rfl (by intro w0; go_simp) ?_
                  try simp only [List.getElem_toArray, List.getElem_cons_succ, List.getElem_cons_zero, Act.put, List.setIfInBounds_toArray, List.set_cons_zero, List.set_cons_succ]
                  refine T_held (v := .slice (some ⟨g, 0, none⟩) n cp) rfl rfl (HS.out _ (Mod.refl _ _).drew) (by intro w0 hSw; (try dsimp only at hSw); go_simp; try with_reducible rfl) ?_
                  try simp only [List.getElem_toArray, List.getElem_cons_succ, List.getElem_cons_zero, Act.put, List.setIfInBounds_toArray, List.set_cons_zero, List.set_cons_succ]
                  refine T_take (v := .int .i64 (j : Int)) rfl rfl (by intro w0; go_simp) ?_
                  try simp only [List.getElem_toArray, List.getElem_cons_succ, List.getElem_cons_zero, Act.put, List.setIfInBounds_toArray, List.set_cons_zero, List.set_cons_succ]
                  refine T_take (v := loV 2 (.slice (some ⟨g, 0, none⟩) n cp) j) rfl rfl (fun w0 => exec_slice_lo Tryz.elV rfl HOR.out rfl j rfl hj w0) ?_
                  try simp only [List.getElem_toArray, List.getElem_cons_succ, List.getElem_cons_zero, Act.put, List.setIfInBounds_toArray, List.set_cons_zero, List.set_cons_succ]
                  (refine T_fork rfl rfl rfl rfl (fun K hK => ?fa3) (fun K hK => ?fb3) <;> (try simp only [List.getElem_toArray, List.getElem_cons_succ, List.getElem_cons_zero]))
                  case' fa3 =>
                    refine wp_build0 Tryz.elV rfl ?_
                    intro W0 v0 HV0 HM0
                    have HMW0 := Lib.hid HM0.out.ofDrew
                    refine hK _ _ (HS.out _ HMW0.out) ?_
                    clear hK K
                    try simp only [List.getElem_toArray, List.getElem_cons_succ, List.getElem_cons_zero, Act.put, List.setIfInBounds_toArray, List.set_cons_zero, List.set_cons_succ]
                    (refine T_fork rfl rfl rfl rfl (fun K hK => ?fc3) (fun K hK => ?fd3) <;> (try simp only [List.getElem_toArray, List.getElem_cons_succ, List.getElem_cons_zero]))
                    case' fc3 =>
                      refine wp_append_reads Tryz.elV (.tmp 56) (.tmp 62) rfl (fun q => wr.heap.size ≤ q) v0 0 ([]) rfl HV0.out (hiV (.slice (some ⟨g, 0, none⟩) n cp) j) (j) ((cellsV es).take (j * 2)) rfl ((HOR.out.keep0 HMW0.out).hi j 2 hj) (by rw [List.length_take, HCL.out]; omega) (fun u hu => HC1.out u (List.mem_of_mem_take hu)) (by omega) (by unfold maxLen; omega) ?_
                      intro v1 W1 h2 h3
                      rw [Nat.zero_add, List.nil_append] at h2
                      have HMW1 : Hid (Mod (fun _ => False) wr W1) := Lib.hid (HMW0.out.trans h3 fun q hq => .inr hq)
                      refine hK _ _ (HS.out _ HMW1.out) ?_
                      clear hK K h3
                      try simp only [List.getElem_toArray, List.getElem_cons_succ, List.getElem_cons_zero, Act.put, List.setIfInBounds_toArray, List.set_cons_zero, List.set_cons_succ]
                      (refine T_do rfl rfl fun K hK => ?_; (try simp only [List.getElem_toArray, List.getElem_cons_succ, List.getElem_cons_zero]))
                      refine wp_build1H Tryz.elV _ rfl [Value.int .u32 v, .slice adl nl cpl] rfl rfl (by decide) (by decide) ?_
                      intro W b HB hbW HM
                      have HMW : Hid (Mod (fun _ => False) wr W) := Lib.hid (HMW1.out.trans HM.out fun _ f => f.elim)
                      have HV1 : Hid (Row W (fun q => wr.heap.size ≤ q ∧ q ≠ b) 52 2 v1 j ((cellsV es).take (j * 2))) := Lib.hid ((show Row W1 (fun q => wr.heap.size ≤ q ∧ q ≠ b) _ _ _ _ _ from ⟨h2.1, fun g hg => ⟨(h2.2 g hg).elim (fun h => h) fun h => Nat.le_trans HMW0.out.size h, by have := h2.lt g hg; omega⟩⟩).keep HM.out fun _ _ f => f)
                      refine hK _ _ (HS.out _ HMW.out) ?_
                      clear hK K h2 HM HMW1 HMW0 HM0 HV0 hbW
                      try simp only [List.getElem_toArray, List.getElem_cons_succ, List.getElem_cons_zero, Act.put, List.setIfInBounds_toArray, List.set_cons_zero, List.set_cons_succ]
                    case' fd3 =>
                      refine wp_build1H Tryz.elV _ rfl [Value.int .u32 v, .slice adl nl cpl] rfl rfl (by decide) (by decide) ?_
                      intro W1 b HB1 hbW HM
                      have HMW1 : Hid (Mod (fun _ => False) wr W1) := Lib.hid (HMW0.out.trans HM.out fun _ f => f.elim)
                      have HV1a : Hid (Row W1 (fun q => wr.heap.size ≤ q ∧ q ≠ b) 52 2 v0 0 []) := Lib.hid ((show Row W0 (fun q => wr.heap.size ≤ q ∧ q ≠ b) _ _ _ _ _ from ⟨HV0.out.1, fun g hg => ⟨HV0.out.2 g hg, by have := HV0.out.lt g hg; omega⟩⟩).keep HM.out fun _ _ f => f)
                      refine hK _ _ (HS.out _ HMW1.out) ?_
                      clear hK K HM
                      try simp only [List.getElem_toArray, List.getElem_cons_succ, List.getElem_cons_zero, Act.put, List.setIfInBounds_toArray, List.set_cons_zero, List.set_cons_succ]
                      (refine T_do rfl rfl fun K hK => ?_; (try simp only [List.getElem_toArray, List.getElem_cons_succ, List.getElem_cons_zero]))
                      refine wp_append_reads Tryz.elV (.tmp 56) (.tmp 62) rfl (fun q => wr.heap.size ≤ q ∧ q ≠ b) v0 0 ([]) rfl HV1a.out (hiV (.slice (some ⟨g, 0, none⟩) n cp) j) (j) ((cellsV es).take (j * 2)) rfl ((HOR.out.keep0 HMW1.out).hi j 2 hj) (by rw [List.length_take, HCL.out]; omega) (fun u hu => HC1.out u (List.mem_of_mem_take hu)) (by omega) (by unfold maxLen; omega) ?_
                      intro v1 W h2 h3
                      rw [Nat.zero_add, List.nil_append] at h2
                      have HMW : Hid (Mod (fun _ => False) wr W) := Lib.hid (HMW1.out.trans h3 fun q hq => .inr hq.1)
                      have HB : Hid (Blk W b 52 [Value.int .u32 v, .slice adl nl cpl]) := Lib.hid (HB1.out.keep h3 fun h => h.2 rfl)
                      have HV1 : Hid (Row W (fun q => wr.heap.size ≤ q ∧ q ≠ b) 52 2 v1 j ((cellsV es).take (j * 2))) := Lib.hid (h2.mono fun q hq => hq.elim (fun h => h) fun h => ⟨Nat.le_trans HMW1.out.size h, by have := HB1.out.lt; omega⟩)
                      refine hK _ _ (HS.out _ HMW.out) ?_
                      clear hK K h2 h3 HMW1 HMW0 HM0 HV0 hbW HV1a HB1
                      try simp only [List.getElem_toArray, List.getElem_cons_succ, List.getElem_cons_zero, Act.put, List.setIfInBounds_toArray, List.set_cons_zero, List.set_cons_succ]
                  case' fb3 =>
                    refine wp_build1H Tryz.elV _ rfl [Value.int .u32 v, .slice adl nl cpl] rfl rfl (by decide) (by decide) ?_
                    intro W0 b HB0 hbW HM0
                    have HMW0 := Lib.hid HM0.out.ofDrew
                    refine hK _ _ (HS.out _ HMW0.out) ?_
                    clear hK K HM0
                    try simp only [List.getElem_toArray, List.getElem_cons_succ, List.getElem_cons_zero, Act.put, List.setIfInBounds_toArray, List.set_cons_zero, List.set_cons_succ]
                    (refine T_do rfl rfl fun K hK => ?_; (try simp only [List.getElem_toArray, List.getElem_cons_succ, List.getElem_cons_zero]))
                    refine wp_build0 Tryz.elV rfl ?_
                    intro W1 v0 HV0 HM
                    have HMW1 : Hid (Mod (fun _ => False) wr W1) := Lib.hid (HMW0.out.trans HM.out fun _ f => f.elim)
                    have HB1 : Hid (Blk W1 b 52 [Value.int .u32 v, .slice adl nl cpl]) := Lib.hid (HB0.out.keep HM.out fun f => f)
                    have HV1a : Hid (Row W1 (fun q => wr.heap.size ≤ q ∧ q ≠ b) 52 2 v0 0 []) := Lib.hid (HV0.out.mono fun q hq => ⟨Nat.le_trans HMW0.out.size hq, by have := HB0.out.lt; omega⟩)
                    refine hK _ _ (HS.out _ HMW1.out) ?_
                    clear hK K HM
                    try simp only [List.getElem_toArray, List.getElem_cons_succ, List.getElem_cons_zero, Act.put, List.setIfInBounds_toArray, List.set_cons_zero, List.set_cons_succ]
                    (refine T_do rfl rfl fun K hK => ?_; (try simp only [List.getElem_toArray, List.getElem_cons_succ, List.getElem_cons_zero]))
                    refine wp_append_reads Tryz.elV (.tmp 56) (.tmp 62) rfl (fun q => wr.heap.size ≤ q ∧ q ≠ b) v0 0 ([]) rfl HV1a.out (hiV (.slice (some ⟨g, 0, none⟩) n cp) j) (j) ((cellsV es).take (j * 2)) rfl ((HOR.out.keep0 HMW1.out).hi j 2 hj) (by rw [List.length_take, HCL.out]; omega) (fun u hu => HC1.out u (List.mem_of_mem_take hu)) (by omega) (by unfold maxLen; omega) ?_
                    intro v1 W h2 h3
                    rw [Nat.zero_add, List.nil_append] at h2
                    have HMW : Hid (Mod (fun _ => False) wr W) := Lib.hid (HMW1.out.trans h3 fun q hq => .inr hq.1)
                    have HB : Hid (Blk W b 52 [Value.int .u32 v, .slice adl nl cpl]) := Lib.hid (HB1.out.keep h3 fun h => h.2 rfl)
                    have HV1 : Hid (Row W (fun q => wr.heap.size ≤ q ∧ q ≠ b) 52 2 v1 j ((cellsV es).take (j * 2))) := Lib.hid (h2.mono fun q hq => hq.elim (fun h => h) fun h => ⟨Nat.le_trans HMW1.out.size h, by have := HB1.out.lt; omega⟩)
                    refine hK _ _ (HS.out _ HMW.out) ?_
                    clear hK K h2 h3 HMW1 HMW0 HV0 hbW HV1a HB1 HB0
                    try simp only [List.getElem_toArray, List.getElem_cons_succ, List.getElem_cons_zero, Act.put, List.setIfInBounds_toArray, List.set_cons_zero, List.set_cons_succ]
                  all_goals
                    (refine T_do rfl rfl fun K hK => ?_; (try simp only [List.getElem_toArray, List.getElem_cons_succ, List.getElem_cons_zero]))
                    refine wp_append_reads Tryz.elV (.tmp 63) (.tmp 67) rfl (fun q => wr.heap.size ≤ q ∧ q ≠ b) v1 j ((cellsV es).take (j * 2)) rfl HV1.out (.slice (some ⟨b, 0, none⟩) 1 1) (1) ([Value.int .u32 v, .slice adl nl cpl]) rfl (HB.out.reads1) (rfl) (HRO.out) (by omega) (by unfold maxLen; omega) ?_
                    intro v2 W2 h4 h5
                    have HMW2 : Hid (Mod (fun _ => False) wr W2) := Lib.hid (HMW.out.trans h5 fun q hq => .inr hq.1)
                    have HV2 : Hid (Row W2 (fun q => wr.heap.size ≤ q) 52 2 v2 (j + 1) ((cellsV es).take (j * 2) ++ [Value.int .u32 v, .slice adl nl cpl])) := Lib.hid (h4.mono fun q hq => hq.elim (fun h => h.1) fun h => Nat.le_trans HMW.out.size h)
                    refine hK _ _ (HS.out _ HMW2.out) ?_
                    clear hK K h4 h5
                    try simp only [List.getElem_toArray, List.getElem_cons_succ, List.getElem_cons_zero, Act.put, List.setIfInBounds_toArray, List.set_cons_zero, List.set_cons_succ]
                    (refine T_do rfl rfl fun K hK => ?_; (try simp only [List.getElem_toArray, List.getElem_cons_succ, List.getElem_cons_zero]))
                    refine wp_append_reads Tryz.elV (.tmp 68) (.tmp 74) rfl (fun q => wr.heap.size ≤ q) v2 (j + 1) ((cellsV es).take (j * 2) ++ [Value.int .u32 v, .slice adl nl cpl]) rfl HV2.out (loV 2 (.slice (some ⟨g, 0, none⟩) n cp) j) (n - j) ((cellsV es).drop (j * 2)) rfl ((HOR.out.keep0 HMW2.out).lo j 2 hj) (by rw [List.length_drop, HCL.out]; omega) (fun u hu => HC1.out u (List.mem_of_mem_drop hu)) (by omega) (by unfold maxLen; omega) ?_
                    intro v3 W3 h6 h7
                    have HMW3 : Hid (Mod (fun _ => False) wr W3) := Lib.hid (HMW2.out.trans h7 fun q hq => .inr hq)
                    have H6 : Hid (Row W3 (fun q => wr.heap.size ≤ q) 52 2 v3 (j + 1 + (n - j)) (((cellsV es).take (j * 2) ++ [Value.int .u32 v, .slice adl nl cpl]) ++ (cellsV es).drop (j * 2))) := Lib.hid (h6.mono fun q hq => hq.elim (fun h => h) fun h => Nat.le_trans HMW2.out.size h)
                    have HO3 : Hid (v3.oneCell' = true) := Lib.hid (by obtain ⟨_, _, e3, _⟩ := h6.form; rw [e3]; rfl)
                    have HT3 := Lib.hid (HT1.out.keep HMW3.out (fun _ _ f => f) fun f => f)
                    refine hK _ _ (HS.out _ HMW3.out) ?_
                    clear hK K h6 h7 HMW2 HV2 HV1 HMW HB
                    try simp only [List.getElem_toArray, List.getElem_cons_succ, List.getElem_cons_zero, Act.put, List.setIfInBounds_toArray, List.set_cons_zero, List.set_cons_succ]
                    repeat (first | (refine T_take (v := ?_) rfl rfl ?_ ?_; rotate_left; (focus (intro w0; go_simp; try with_reducible rfl)); simp only [List.getElem_toArray, List.getElem_cons_succ, List.getElem_cons_zero, Act.put, List.setIfInBounds_toArray, List.set_cons_zero, List.set_cons_succ]))
                    (refine T_end rfl rfl rfl fun K hK => ?_; (try simp only [List.getElem_toArray, List.getElem_cons_succ, List.getElem_cons_zero]))
                    refine wp_store_blk1 _ _ _ rfl xb 0 35 _ v3 rfl rfl HT3.out.tab (show 0 < 3 by decide) sliceVSz HO3.out ?_
                    intro w9 HB9 HM9
                    have HFIN := Lib.hid (insDone HT3.out HR.out HFL.out (HM1.out.trans HMW3.out fun _ f => f.elim) HXL.out HAT.out H6.out HL.out hj HB9.out HM9.out (Nat.le_trans HM1.out.size (Nat.le_refl _)))
                    refine hK _ _ ?_
                    clear hK K HB9 HM9 H6 HT3 HMW3 HO3
                    try simp only [List.getElem_toArray, List.getElem_cons_succ, List.getElem_cons_zero, Act.put, List.setIfInBounds_toArray, List.set_cons_zero, List.set_cons_succ]
                    refine T_nil ?_
                    go_wp2
                    go_ret
                    rw [HC.out, HE.out, HCN.out, if_pos rfl]
                    exact ⟨rfl, ⟨v3, HFIN.out.1⟩, HFIN.out.2⟩
              · obtain rfl : j = n := by omega
                have HAT : Hid (atV es v = j) := Lib.hid (atV_at es v j (by have := HL.out; omega) HALL.out fun x hx => by have := (List.getElem?_eq_some_iff.1 hx).1; have := HL.out; omega)
                go_wp2_with fail
                have HOR : Hid (Reads wr (.slice ad j cp) j (cellsV es)) := Lib.hid (by have h := HT1.out.row.reads; rw [← HL.out] at h; exact h)
                have HCL : Hid ((cellsV es).length = j * 2) := Lib.hid (by rw [cellsV_len, HL.out])
                have HC1 := Lib.hid HT1.out.one
                have HRO : Hid (∀ u ∈ [Value.int .u32 v, .slice adl nl cpl], u.oneCell' = true) := Lib.hid fun u hu => by
                  simp at hu
                  rcases hu with rfl | rfl <;> rfl
                have HS : Hid (∀ W : World, Mod (fun _ => False) wr W → W.cell? ⟨xb, 0, none⟩ = some (.slice ad j cp)) := Lib.hid fun W hW => hW.cell (fun f => f) c0
                refine wp_region_T [23] (.c 0 0 (.c 2 0 (.c 3 0 (.c 4 0 (.c 5 1 (.c 6 0 (.c 7 0 (.c 9 0 (.c 10 0 (.c 11 0 (.c 14 0 (.c 15 0 (.c 16 0 (.c 17 1 (.c 18 0 (.c 19 0 (.f 1 12 (.f 8 12 (.c 12 2 (.c 13 2 (.c 20 2 (.c 21 0 (.c 22 0 (.c 23 3 .n)))))) (.c 8 2 (.c 13 2 (.c 20 2 (.c 21 0 (.c 22 0 (.c 23 3 .n))))))) (.c 1 2 (.c 8 2 (.c 13 2 (.c 20 2 (.c 21 0 (.c 22 0 (.c 23 3 .n)))))))))))))))))))))))) (fun w' : World => w'.cell? ⟨xb, 0, none⟩ = some (.slice ad j cp)) (by kernel_rfl) (by kernel_rfl) (fun d _ _ _ _ h => by cases d <;> exact h) ?_
                refine T_take (v := .pointer (some ⟨xb, 0, none⟩)) rfl rfl (by intro w0; go_simp) ?_
                try simp only [List.getElem_toArray, List.getElem_cons_succ, List.getElem_cons_zero, Act.put, List.setIfInBounds_toArray, List.set_cons_zero, List.set_cons_succ]
                refine T_take (v := .pointer (some ⟨xb, 0, none⟩)) rfl rfl (by intro w0; go_simp) ?_
                try simp only [List.getElem_toArray, List.getElem_cons_succ, List.getElem_cons_zero, Act.put, List.setIfInBounds_toArray, List.set_cons_zero, List.set_cons_succ]
                refine T_take (v := .pointer (some ⟨xb, 0, none⟩)) rfl rfl (by intro w0; go_simp) ?_
                try simp only [List.getElem_toArray, List.getElem_cons_succ, List.getElem_cons_zero, Act.put, List.setIfInBounds_toArray, List.set_cons_zero, List.set_cons_succ]
                refine T_take (v := .pointer (some ⟨xb, 0, none⟩)) rfl rfl (by intro w0; go_simp) ?_
                try simp only [List.getElem_toArray, List.getElem_cons_succ, List.getElem_cons_zero, Act.put, List.setIfInBounds_toArray, List.set_cons_zero, List.set_cons_succ]
                refine T_held (v := .slice ad j cp) rfl rfl (HS.out _ (Mod.refl _ _).drew) (by intro w0 hSw; (try dsimp only at hSw); go_simp; try with_reducible rfl) ?_
                try simp only [List.getElem_toArray, List.getElem_cons_succ, List.getElem_cons_zero, Act.put, List.setIfInBounds_toArray, List.set_cons_zero, List.set_cons_succ]
                refine T_take (v := .int .i64 (j : Int)) rfl rfl (by intro w0; go_simp) ?_
                try simp only [List.getElem_toArray, List.getElem_cons_succ, List.getElem_cons_zero, Act.put, List.setIfInBounds_toArray, List.set_cons_zero, List.set_cons_succ]
                refine T_take (v := hiV (.slice ad j cp) j) rfl rfl (fun w0 => exec_slice_hi Tryz.elV rfl HOR.out rfl j rfl hj w0) ?_
                try simp only [List.getElem_toArray, List.getElem_cons_succ, List.getElem_cons_zero, Act.put, List.setIfInBounds_toArray, List.set_cons_zero, List.set_cons_succ]
                refine T_take (v := .int .u32 v) rfl rfl (by intro w0; go_simp) ?_
                try simp only [List.getElem_toArray, List.getElem_cons_succ, List.getElem_cons_zero, Act.put, List.setIfInBounds_toArray, List.set_cons_zero, List.set_cons_succ]
                refine T_take (v := .slice adl nl cpl) rfl rfl (by intro w0; go_simp) ?_
                try simp only [List.getElem_toArray, List.getElem_cons_succ, List.getElem_cons_zero, Act.put, List.setIfInBounds_toArray, List.set_cons_zero, List.set_cons_succ]
                refine T_take (v := .agg ([Value.int .u32 v, .slice adl nl cpl]).toArray) rfl rfl (fun w0 => exec_build_v rfl v adl nl cpl rfl rfl w0) ?_
                try simp only [List.getElem_toArray, List.getElem_cons_succ, List.getElem_cons_zero, Act.put, List.setIfInBounds_toArray, List.set_cons_zero, List.set_cons_succ]
                refine T_take (v := .pointer (some ⟨xb, 0, none⟩)) rfl rfl (by intro w0; go_simp) ?_
                try simp only [List.getElem_toArray, List.getElem_cons_succ, List.getElem_cons_zero, Act.put, List.setIfInBounds_toArray, List.set_cons_zero, List.set_cons_succ]
                refine T_take (v := .pointer (some ⟨xb, 0, none⟩)) rfl rfl (by intro w0; go_simp) ?_
                try simp only [List.getElem_toArray, List.getElem_cons_succ, List.getElem_cons_zero, Act.put, List.setIfInBounds_toArray, List.set_cons_zero, List.set_cons_succ]
                refine T_take (v := .pointer (some ⟨xb, 0, none⟩)) rfl rfl (by intro w0; go_simp) ?_
                try simp only [List.getElem_toArray, List.getElem_cons_succ, List.getElem_cons_zero, Act.put, List.setIfInBounds_toArray, List.set_cons_zero, List.set_cons_succ]
                refine T_held (v := .slice ad j cp) rfl rfl (HS.out _ (Mod.refl _ _).drew) (by intro w0 hSw; (try dsimp only at hSw); go_simp; try with_reducible rfl) ?_
                try simp only [List.getElem_toArray, List.getElem_cons_succ, List.getElem_cons_zero, Act.put, List.setIfInBounds_toArray, List.set_cons_zero, List.set_cons_succ]
                refine T_take (v := .int .i64 (j : Int)) rfl rfl (by intro w0; go_simp) ?_
                try simp only [List.getElem_toArray, List.getElem_cons_succ, List.getElem_cons_zero, Act.put, List.setIfInBounds_toArray, List.set_cons_zero, List.set_cons_succ]
                refine T_take (v := loV 2 (.slice ad j cp) j) rfl rfl (fun w0 => exec_slice_lo Tryz.elV rfl HOR.out rfl j rfl hj w0) ?_
                try simp only [List.getElem_toArray, List.getElem_cons_succ, List.getElem_cons_zero, Act.put, List.setIfInBounds_toArray, List.set_cons_zero, List.set_cons_succ]
                (refine T_fork rfl rfl rfl rfl (fun K hK => ?fa4) (fun K hK => ?fb4) <;> (try simp only [List.getElem_toArray, List.getElem_cons_succ, List.getElem_cons_zero]))
                case' fa4 =>
                  refine wp_build0 Tryz.elV rfl ?_
                  intro W0 v0 HV0 HM0
                  have HMW0 := Lib.hid HM0.out.ofDrew
                  refine hK _ _ (HS.out _ HMW0.out) ?_
                  clear hK K
                  try simp only [List.getElem_toArray, List.getElem_cons_succ, List.getElem_cons_zero, Act.put, List.setIfInBounds_toArray, List.set_cons_zero, List.set_cons_succ]
                  (refine T_fork rfl rfl rfl rfl (fun K hK => ?fc4) (fun K hK => ?fd4) <;> (try simp only [List.getElem_toArray, List.getElem_cons_succ, List.getElem_cons_zero]))
                  case' fc4 =>
                    refine wp_append_reads Tryz.elV (.tmp 56) (.tmp 62) rfl (fun q => wr.heap.size ≤ q) v0 0 ([]) rfl HV0.out (hiV (.slice ad j cp) j) (j) ((cellsV es).take (j * 2)) rfl ((HOR.out.keep0 HMW0.out).hi j 2 hj) (by rw [List.length_take, HCL.out]; omega) (fun u hu => HC1.out u (List.mem_of_mem_take hu)) (by omega) (by unfold maxLen; omega) ?_
                    intro v1 W1 h2 h3
                    rw [Nat.zero_add, List.nil_append] at h2
                    have HMW1 : Hid (Mod (fun _ => False) wr W1) := Lib.hid (HMW0.out.trans h3 fun q hq => .inr hq)
                    refine hK _ _ (HS.out _ HMW1.out) ?_
                    clear hK K h3
                    try simp only [List.getElem_toArray, List.getElem_cons_succ, List.getElem_cons_zero, Act.put, List.setIfInBounds_toArray, List.set_cons_zero, List.set_cons_succ]
                    (refine T_do rfl rfl fun K hK => ?_; (try simp only [List.getElem_toArray, List.getElem_cons_succ, List.getElem_cons_zero]))
                    refine wp_build1H Tryz.elV _ rfl [Value.int .u32 v, .slice adl nl cpl] rfl rfl (by decide) (by decide) ?_
                    intro W b HB hbW HM
                    have HMW : Hid (Mod (fun _ => False) wr W) := Lib.hid (HMW1.out.trans HM.out fun _ f => f.elim)
                    have HV1 : Hid (Row W (fun q => wr.heap.size ≤ q ∧ q ≠ b) 52 2 v1 j ((cellsV es).take (j * 2))) := Lib.hid ((show Row W1 (fun q => wr.heap.size ≤ q ∧ q ≠ b) _ _ _ _ _ from ⟨h2.1, fun g hg => ⟨(h2.2 g hg).elim (fun h => h) fun h => Nat.le_trans HMW0.out.size h, by have := h2.lt g hg; omega⟩⟩).keep HM.out fun _ _ f => f)
                    refine hK _ _ (HS.out _ HMW.out) ?_
                    clear hK K h2 HM HMW1 HMW0 HM0 HV0 hbW
                    try simp only [List.getElem_toArray, List.getElem_cons_succ, List.getElem_cons_zero, Act.put, List.setIfInBounds_toArray, List.set_cons_zero, List.set_cons_succ]
                  case' fd4 =>
                    refine wp_build1H Tryz.elV _ rfl [Value.int .u32 v, .slice adl nl cpl] rfl rfl (by decide) (by decide) ?_
                    intro W1 b HB1 hbW HM
                    have HMW1 : Hid (Mod (fun _ => False) wr W1) := Lib.hid (HMW0.out.trans HM.out fun _ f => f.elim)
                    have HV1a : Hid (Row W1 (fun q => wr.heap.size ≤ q ∧ q ≠ b) 52 2 v0 0 []) := Lib.hid ((show Row W0 (fun q => wr.heap.size ≤ q ∧ q ≠ b) _ _ _ _ _ from ⟨HV0.out.1, fun g hg => ⟨HV0.out.2 g hg, by have := HV0.out.lt g hg; omega⟩⟩).keep HM.out fun _ _ f => f)
                    refine hK _ _ (HS.out _ HMW1.out) ?_
                    clear hK K HM
                    try simp only [List.getElem_toArray, List.getElem_cons_succ, List.getElem_cons_zero, Act.put, List.setIfInBounds_toArray, List.set_cons_zero, List.set_cons_succ]
                    (refine T_do rfl rfl fun K hK => ?_; (try simp only [List.getElem_toArray, List.getElem_cons_succ, List.getElem_cons_zero]))
                    refine wp_append_reads Tryz.elV (.tmp 56) (.tmp 62) rfl (fun q => wr.heap.size ≤ q ∧ q ≠ b) v0 0 ([]) rfl HV1a.out (hiV (.slice ad j cp) j) (j) ((cellsV es).take (j * 2)) rfl ((HOR.out.keep0 HMW1.out).hi j 2 hj) (by rw [List.length_take, HCL.out]; omega) (fun u hu => HC1.out u (List.mem_of_mem_take hu)) (by omega) (by unfold maxLen; omega) ?_
                    intro v1 W h2 h3
                    rw [Nat.zero_add, List.nil_append] at h2
                    have HMW : Hid (Mod (fun _ => False) wr W) := Lib.hid (HMW1.out.trans h3 fun q hq => .inr hq.1)
                    have HB : Hid (Blk W b 52 [Value.int .u32 v, .slice adl nl cpl]) := Lib.hid (HB1.out.keep h3 fun h => h.2 rfl)
                    have HV1 : Hid (Row W (fun q => wr.heap.size ≤ q ∧ q ≠ b) 52 2 v1 j ((cellsV es).take (j * 2))) := Lib.hid (h2.mono fun q hq => hq.elim (fun h => h) fun h => ⟨Nat.le_trans HMW1.out.size h, by have := HB1.out.lt; omega⟩)
                    refine hK _ _ (HS.out _ HMW.out) ?_
                    clear hK K h2 h3 HMW1 HMW0 HM0 HV0 hbW HV1a HB1
                    try simp only [List.getElem_toArray, List.getElem_cons_succ, List.getElem_cons_zero, Act.put, List.setIfInBounds_toArray, List.set_cons_zero, List.set_cons_succ]
                case' fb4 =>
                  refine wp_build1H Tryz.elV _ rfl [Value.int .u32 v, .slice adl nl cpl] rfl rfl (by decide) (by decide) ?_
                  intro W0 b HB0 hbW HM0
                  have HMW0 := Lib.hid HM0.out.ofDrew
                  refine hK _ _ (HS.out _ HMW0.out) ?_
                  clear hK K HM0
                  try simp only [List.getElem_toArray, List.getElem_cons_succ, List.getElem_cons_zero, Act.put, List.setIfInBounds_toArray, List.set_cons_zero, List.set_cons_succ]
                  (refine T_do rfl rfl fun K hK => ?_; (try simp only [List.getElem_toArray, List.getElem_cons_succ, List.getElem_cons_zero]))
                  refine wp_build0 Tryz.elV rfl ?_
                  intro W1 v0 HV0 HM
                  have HMW1 : Hid (Mod (fun _ => False) wr W1) := Lib.hid (HMW0.out.trans HM.out fun _ f => f.elim)
                  have HB1 : Hid (Blk W1 b 52 [Value.int .u32 v, .slice adl nl cpl]) := Lib.hid (HB0.out.keep HM.out fun f => f)
                  have HV1a : Hid (Row W1 (fun q => wr.heap.size ≤ q ∧ q ≠ b) 52 2 v0 0 []) := Lib.hid (HV0.out.mono fun q hq => ⟨Nat.le_trans HMW0.out.size hq, by have := HB0.out.lt; omega⟩)
                  refine hK _ _ (HS.out _ HMW1.out) ?_
                  clear hK K HM
                  try simp only [List.getElem_toArray, List.getElem_cons_succ, List.getElem_cons_zero, Act.put, List.setIfInBounds_toArray, List.set_cons_zero, List.set_cons_succ]
                  (refine T_do rfl rfl fun K hK => ?_; (try simp only [List.getElem_toArray, List.getElem_cons_succ, List.getElem_cons_zero]))
                  refine wp_append_reads Tryz.elV (.tmp 56) (.tmp 62) rfl (fun q => wr.heap.size ≤ q ∧ q ≠ b) v0 0 ([]) rfl HV1a.out (hiV (.slice ad j cp) j) (j) ((cellsV es).take (j * 2)) rfl ((HOR.out.keep0 HMW1.out).hi j 2 hj) (by rw [List.length_take, HCL.out]; omega) (fun u hu => HC1.out u (List.mem_of_mem_take hu)) (by omega) (by unfold maxLen; omega) ?_
                  intro v1 W h2 h3
                  rw [Nat.zero_add, List.nil_append] at h2
                  have HMW : Hid (Mod (fun _ => False) wr W) := Lib.hid (HMW1.out.trans h3 fun q hq => .inr hq.1)
                  have HB : Hid (Blk W b 52 [Value.int .u32 v, .slice adl nl cpl]) := Lib.hid (HB1.out.keep h3 fun h => h.2 rfl)
                  have HV1 : Hid (Row W (fun q => wr.heap.size ≤ q ∧ q ≠ b) 52 2 v1 j ((cellsV es).take (j * 2))) := Lib.hid (h2.mono fun q hq => hq.elim (fun h => h) fun h => ⟨Nat.le_trans HMW1.out.size h, by have := HB1.out.lt; omega⟩)
                  refine hK _ _ (HS.out _ HMW.out) ?_
                  clear hK K h2 h3 HMW1 HMW0 HV0 hbW HV1a HB1 HB0
                  try simp only [List.getElem_toArray, List.getElem_cons_succ, List.getElem_cons_zero, Act.put, List.setIfInBounds_toArray, List.set_cons_zero, List.set_cons_succ]
                all_goals
                  (refine T_do rfl rfl fun K hK => ?_; (try simp only [List.getElem_toArray, List.getElem_cons_succ, List.getElem_cons_zero]))
                  refine wp_append_reads Tryz.elV (.tmp 63) (.tmp 67) rfl (fun q => wr.heap.size ≤ q ∧ q ≠ b) v1 j ((cellsV es).take (j * 2)) rfl HV1.out (.slice (some ⟨b, 0, none⟩) 1 1) (1) ([Value.int .u32 v, .slice adl nl cpl]) rfl (HB.out.reads1) (rfl) (HRO.out) (by omega) (by unfold maxLen; omega) ?_
                  intro v2 W2 h4 h5
                  have HMW2 : Hid (Mod (fun _ => False) wr W2) := Lib.hid (HMW.out.trans h5 fun q hq => .inr hq.1)
                  have HV2 : Hid (Row W2 (fun q => wr.heap.size ≤ q) 52 2 v2 (j + 1) ((cellsV es).take (j * 2) ++ [Value.int .u32 v, .slice adl nl cpl])) := Lib.hid (h4.mono fun q hq => hq.elim (fun h => h.1) fun h => Nat.le_trans HMW.out.size h)
                  refine hK _ _ (HS.out _ HMW2.out) ?_
                  clear hK K h4 h5
                  try simp only [List.getElem_toArray, List.getElem_cons_succ, List.getElem_cons_zero, Act.put, List.setIfInBounds_toArray, List.set_cons_zero, List.set_cons_succ]
                  (refine T_do rfl rfl fun K hK => ?_; (try simp only [List.getElem_toArray, List.getElem_cons_succ, List.getElem_cons_zero]))
                  refine wp_append_reads Tryz.elV (.tmp 68) (.tmp 74) rfl (fun q => wr.heap.size ≤ q) v2 (j + 1) ((cellsV es).take (j * 2) ++ [Value.int .u32 v, .slice adl nl cpl]) rfl HV2.out (loV 2 (.slice ad j cp) j) (j - j) ((cellsV es).drop (j * 2)) rfl ((HOR.out.keep0 HMW2.out).lo j 2 hj) (by rw [List.length_drop, HCL.out]; omega) (fun u hu => HC1.out u (List.mem_of_mem_drop hu)) (by omega) (by unfold maxLen; omega) ?_
                  intro v3 W3 h6 h7
                  have HMW3 : Hid (Mod (fun _ => False) wr W3) := Lib.hid (HMW2.out.trans h7 fun q hq => .inr hq)
                  have H6 : Hid (Row W3 (fun q => wr.heap.size ≤ q) 52 2 v3 (j + 1 + (j - j)) (((cellsV es).take (j * 2) ++ [Value.int .u32 v, .slice adl nl cpl]) ++ (cellsV es).drop (j * 2))) := Lib.hid (h6.mono fun q hq => hq.elim (fun h => h) fun h => Nat.le_trans HMW2.out.size h)
                  have HO3 : Hid (v3.oneCell' = true) := Lib.hid (by obtain ⟨_, _, e3, _⟩ := h6.form; rw [e3]; rfl)
                  have HT3 := Lib.hid (HT1.out.keep HMW3.out (fun _ _ f => f) fun f => f)
                  refine hK _ _ (HS.out _ HMW3.out) ?_
                  clear hK K h6 h7 HMW2 HV2 HV1 HMW HB
                  try simp only [List.getElem_toArray, List.getElem_cons_succ, List.getElem_cons_zero, Act.put, List.setIfInBounds_toArray, List.set_cons_zero, List.set_cons_succ]
                  repeat (first | (refine T_take (v := ?_) rfl rfl ?_ ?_; rotate_left; (focus (intro w0; go_simp; try with_reducible rfl)); simp only [List.getElem_toArray, List.getElem_cons_succ, List.getElem_cons_zero, Act.put, List.setIfInBounds_toArray, List.set_cons_zero, List.set_cons_succ]))
                  (refine T_end rfl rfl rfl fun K hK => ?_; (try simp only [List.getElem_toArray, List.getElem_cons_succ, List.getElem_cons_zero]))
                  refine wp_store_blk1 _ _ _ rfl xb 0 35 _ v3 rfl rfl HT3.out.tab (show 0 < 3 by decide) sliceVSz HO3.out ?_
                  intro w9 HB9 HM9
                  have HFIN := Lib.hid (insDone HT3.out HR.out HFL.out (HM1.out.trans HMW3.out fun _ f => f.elim) HXL.out HAT.out H6.out HL.out hj HB9.out HM9.out (Nat.le_trans HM1.out.size (Nat.le_refl _)))
                  refine hK _ _ ?_
                  clear hK K HB9 HM9 H6 HT3 HMW3 HO3
                  try simp only [List.getElem_toArray, List.getElem_cons_succ, List.getElem_cons_zero, Act.put, List.setIfInBounds_toArray, List.set_cons_zero, List.set_cons_succ]
                  refine T_nil ?_
                  go_wp2
                  go_ret
                  rw [HC.out, HE.out, HCN.out, if_pos rfl]
                  exact ⟨rfl, ⟨v3, HFIN.out.1⟩, HFIN.out.2⟩
end Go.Proofs.YtegjamjognpdkaaGreat
