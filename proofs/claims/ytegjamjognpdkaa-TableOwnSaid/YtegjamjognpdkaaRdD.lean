/- table.row: what it reads, or that bytes are lacking. -/
import Derived.Test.YtegjamjognpdkaaRdC
import Derived.Test.YtegjamjognpdkaaRowM
namespace Go.Proofs.Ytegjamjognpdkaa
open Go.RowKit
set_option linter.unusedVariables false
set_option linter.unusedSimpArgs false
theorem tkA_le (s : ByteArray) (a : Nat) (bad : Bool) (n : Nat) (h : a ≤ s.size) : tkA s a bad n ≤ s.size := by
  unfold tkA
  split
  · rename_i h; exact h.2
  · exact h
theorem adrAt_extract (s : ByteArray) (a n : Nat) (h : a + n ≤ s.size) : adrAt (s.extract a (a + n)) 0 n = adrAt s a n := by
  unfold adrAt
  apply List.map_congr_left
  intro k hk
  split
  · rw [Nat.zero_add, byt_extract s a _ k (by omega) h]
  · rfl
theorem addrRead_tk (s : ByteArray) (a : Nat) (bad : Bool) (n : Nat) (hn : n = 4 ∨ n = 16) (w : World) : Calls Try.prog 51 #[.string (tkS s a bad n)] w fun e w' => ∃ v xs c, e = .returned (.tuple #[.agg (adrC v xs).toArray, .int .i64 c]) ∧ xs.length = 16 ∧ (tkIs s a bad n → v = decide (n = 16) ∧ xs = adrAt s a n) ∧ Mod (fun _ => False) w w' := by
  by_cases h : tkIs s a bad n
  · obtain ⟨t1, _, _⟩ := tk_yes h
    rw [t1]
    refine (addrRead_yes _ n hn (ext_size s a n h.2) w).mono fun e w' ⟨h1, h2⟩ => ⟨_, _, _, h1, adrAt_len _ _ _, fun _ => ⟨rfl, ?_⟩, h2⟩
    exact adrAt_extract s a n h.2
  · obtain ⟨t1, _, _⟩ := tk_no h
    rw [t1]
    exact (addrRead_no _ rfl w).mono fun e w' ⟨h1, h2⟩ => ⟨_, _, _, h1, rfl, fun hh => absurd hh h, h2⟩
/-- what a row's reading comes to -/
structure RowR (s : ByteArray) (a b0 : Nat) (w : World) (cs : List Value) (is : Bool) (a' : Nat) (bad : Bool) : Prop where
  len : cs.length = 20
  one : ∀ u ∈ cs, u.oneCell' = true
  le : a' ≤ s.size
  iff : bad = false ↔ fullAt s a
  row : bad = false → a' = nxtAt s a ∧ is = decide (byt s a ≤ 1) ∧ ∃ sv, cs = (rowOf s a).c sv ∧ Row w (fun k => b0 ≤ k) 3 1 sv (cntAt s a) (ints (rowOf s a).next)
theorem nuV_bd1 (s : ByteArray) (a : Nat) (bad : Bool) : 0 ≤ nuV s a bad 1 ∧ nuV s a bad 1 < 256 := by
  unfold nuV
  split
  · exact byt_bd s a
  · omega
/-- the round of row's loop: j next ones are read -/
structure RowJ (s : ByteArray) (p p2 p6 a5 : Nat) (b5 : Bool) (C : Value → List Value) (w wr : World) (j : Nat) (v : Value) (xs : List Int) (a : Nat) (bad : Bool) : Prop where
  rd : RdAt wr p s a bad
  le : a ≤ s.size
  blk : Blk wr p2 38 (rowC 0 false z16 0 (.slice none 0 0))
  own : Blk wr p6 38 (C v)
  row : Row wr (fun k => w.heap.size ≤ k) 3 1 v j (ints xs)
  len : xs.length = j
  mod : Mod (fun k => k = p) w wr
  iff : bad = false ↔ b5 = false ∧ a5 + 2 * j ≤ s.size
  yes : bad = false → a = a5 + 2 * j ∧ xs = nextAt s a5 j
/-- where a row stands when its number of next ones is read -/
structure RowK (s : ByteArray) (a n : Nat) (vl rt : Int) (N a5 : Nat) (b5 : Bool) (v : Bool) (xs : List Int) : Prop where
  iff : b5 = false ↔ a + 6 + n ≤ s.size
  yes : b5 = false → a5 = a + 6 + n ∧ vl = num2 s (a + 1) ∧ rt = num2 s (a + 3) ∧ N = cntAt s a ∧ v = decide (n = 16) ∧ xs = adrAt s (a + 5) n
theorem Row.far {w w' : World} {F f : Nat → Prop} {e : TypeId} {sz : Nat} {v : Value} {n : Nat} {xs : List Value} (h : Row w f e sz v n xs) (hm : Mod F w w') (hd : ∀ k, v.ownBlock = some k → ¬ F k) : Row w' f e sz v n xs := by
  obtain ⟨⟨hl, h1⟩, h2⟩ := h
  refine ⟨⟨hl, ?_⟩, h2⟩
  rcases h1 with h1 | ⟨g, cap, cur, rfl, hb, hg, r⟩
  · exact .inl h1
  · exact .inr ⟨g, cap, cur, rfl, hb, hm.keep hg (hd g rfl), r⟩
section
variable {s : ByteArray} {p p2 p6 a5 j a : Nat} {b5 v : Bool} {n2 n3 n9 : Int} {xs xs' : List Int} {u v10 : Value} {w wr w9 w10 w11 : World} {bad : Bool}
theorem RowJ.next1 {ob : Obj} (h : RowJ s p p2 p6 a5 b5 (rowC n2 v xs n3) w wr j u xs' a bad) (hm9 : Mod (fun k => k = p) wr w9) (h1 : p6 ≠ p) (h2 : p6 ≠ p2) (hm10 : Mod (fun k => u.ownBlock = some k) (w9.alloc ob) w10) : Blk w10 p6 38 (rowC n2 v xs n3 u) := by
  have b9 := h.own.keep hm9 h1
  refine (b9.alloc ob).keep hm10 fun e => ?_
  exact h.row.ne h.own (by decide) e
theorem RowJ.next (h : RowJ s p p2 p6 a5 b5 (rowC n2 v xs n3) w wr j u xs' a false) (hpw : p < w.heap.size) (hp6 : w.heap.size ≤ p6) (h1 : p6 ≠ p) (h2 : p6 ≠ p2) (h3 : p2 ≠ p) (hxl : xs.length = 16) (hn : n9 = nuV s a false 2) (hR : RdAt w9 p s (tkA s a false 2) (tkB s a false 2))
    (hm9 : Mod (fun k => k = p) wr w9) (hR10 : Row w10 (fun k => w.heap.size ≤ k ∨ (w9.alloc (.cells #[.int .i64 n9] 3 (0, 0))).heap.size ≤ k) 3 1 v10 (j + 1) (ints xs' ++ #[Value.int .i64 n9].toList))
    (hm10 : Mod (fun k => u.ownBlock = some k) (w9.alloc (.cells #[.int .i64 n9] 3 (0, 0))) w10) (hl : Blk w11 p6 38 ((rowC n2 v xs n3 u).set 19 v10)) (hm11 : Mod (fun k => k = p6) w10 w11) :
    RowJ s p p2 p6 a5 b5 (rowC n2 v xs n3) w w11 (j + 1) v10 (xs' ++ [n9]) (tkA s a false 2) (tkB s a false 2) := by
  have hs9 := Nat.le_trans h.mod.size hm9.size
  have hrow : Row w10 (fun k => w.heap.size ≤ k) 3 1 v10 (j + 1) (ints (xs' ++ [n9])) := by
    have : ints (xs' ++ [n9]) = ints xs' ++ #[Value.int .i64 n9].toList := by simp [ints]
    rw [this]
    exact hR10.mono fun y hy => hy.elim id fun h => Nat.le_trans hs9 (allocLe h)
  have own : ∀ k, u.ownBlock = some k → w.heap.size ≤ k := fun k hk => h.row.2 k hk
  have b10 : Blk w10 p6 38 (rowC n2 v xs n3 u) := h.next1 hm9 h1 h2 hm10
  refine ⟨?_, tkA_le _ _ _ _ h.le, ?_, ?_, ?_, by simp [h.len], ?_, ?_, ?_⟩
  · have r10 := (hR.keep ((Mod.refl (fun _ => False) w9).alloc (.cells #[.int .i64 n9] 3 (0, 0))) fun f => f).keep hm10 fun e => by have := own _ e; omega
    exact r10.keep hm11 (Ne.symm h1)
  · have c10 := ((h.blk.keep hm9 h3).alloc (.cells #[.int .i64 n9] 3 (0, 0))).keep hm10 fun e => h.row.ne h.blk (by decide) e
    exact c10.keep hm11 (Ne.symm h2)
  · rw [rowC_set _ _ _ _ _ _ hxl] at hl
    exact hl
  · exact hrow.far hm11 fun k hk e => hrow.ne b10 (by decide) (e ▸ hk)
  · exact (((h.mod.trans hm9 fun _ h => .inl h).alloc _).trans hm10 fun x hx => .inr (own x hx)).trans hm11 fun x hx => .inr (by omega)
  · obtain ⟨g1, g2⟩ := h.iff.1 rfl
    obtain ⟨y1, y2⟩ := h.yes rfl
    unfold tkB
    by_cases hf : tkIs s a false 2
    · rw [if_pos hf]
      have := hf.2
      exact ⟨fun _ => ⟨g1, by omega⟩, fun _ => rfl⟩
    · rw [if_neg hf]
      have : ¬ a + 2 ≤ s.size := fun e => hf ⟨rfl, e⟩
      exact ⟨fun e => (by cases e), fun e => (by omega)⟩
  · intro hb
    have hf : tkIs s a false 2 := by
      unfold tkB at hb
      split at hb
      · assumption
      · cases hb
    obtain ⟨y1, y2⟩ := h.yes rfl
    refine ⟨by rw [(tk_yes hf).2.1]; omega, ?_⟩
    rw [nextAt_snoc, ← y2, ← y1, hn]
    congr 2
    exact if_pos hf
end
theorem row_end {s : ByteArray} {p p2 p6 a n N a5 j m a' cp' : Nat} {b5 v bad is : Bool} {n2 n3 : Int} {xs xs' : List Int} {ad' : Option Addr} {w wr w9 : World} (hp2 : p2 = w.heap.size) (hne : p2 ≠ p) (hn : n = wideAt s a) (hk : decide (byt s a = 1) = decide (n = 16))
    (hkey : RowK s a n n2 n3 N a5 b5 v xs) (hxl : xs.length = 16) (hjm : j + m = N) (hJ : RowJ s p p2 p6 a5 b5 (rowC n2 v xs n3) w wr j (.slice ad' j cp') xs' a' bad) (hm : Mod (fun k => k = p2) wr w9) (hend : bad = true ∨ m = 0) (his : is = decide (byt s a ≤ 1)) :
    RdAt w9 p s a' bad ∧ Mod (fun k => k = p) w w9 ∧ RowR s a w.heap.size w9 (rowC n2 v xs n3 (.slice ad' j cp')) is a' bad := by
  have hm9 : Mod (fun k => k = p) w w9 := hJ.mod.trans hm fun x hx => .inr (by rw [hx, hp2]; exact Nat.le_refl _)
  have hiff : bad = false ↔ fullAt s a := by
    unfold fullAt nxtAt
    rw [← hn]
    constructor
    · intro hb0
      obtain ⟨q1, q2⟩ := hJ.iff.1 hb0
      have hm0 : m = 0 := hend.resolve_left (fun e => by rw [hb0] at e; cases e)
      obtain ⟨y1, y2, y3, y4, y5⟩ := hkey.yes q1
      omega
    · intro hfu
      refine hJ.iff.2 ?_
      have q1 : b5 = false := hkey.iff.2 (by omega)
      obtain ⟨y1, y2, y3, y4, y5⟩ := hkey.yes q1
      exact ⟨q1, by omega⟩
  refine ⟨hJ.rd.keep hm (Ne.symm hne), hm9, rowC_len _ _ _ _ _ hxl, rowC_one _ _ _ _ _ rfl, hJ.le, hiff, fun hb0 => ?_⟩
  have hm0 : m = 0 := hend.resolve_left (fun e => by rw [hb0] at e; cases e)
  obtain ⟨q1, q2⟩ := hJ.iff.1 hb0
  obtain ⟨y1, y2, y3, y4, y5, y6⟩ := hkey.yes q1
  obtain ⟨z1, z2⟩ := hJ.yes hb0
  have hjN : j = cntAt s a := by omega
  have hoff : Off (fun k => k = p2) (.slice ad' j cp') := fun g hg e => by
    subst e
    exact hJ.row.ne hJ.blk (by decide) hg
  have hrd := hJ.row.far hm hoff
  refine ⟨?_, his, .slice ad' j cp', ?_, ?_⟩
  · unfold nxtAt
    rw [← hn]
    omega
  · unfold TRow.c rowOf
    dsimp only
    rw [← hn, y2, y3, y5, y6, hk]
  · have : (rowOf s a).next = xs' := by
      rw [z2, hjN, y1]
      unfold rowOf
      dsimp only
      rw [← hn]
    rw [this, ← hjN]
    exact hrd
theorem row_key (s : ByteArray) (a n : Nat) (vl rt : Int) (N a2 a3 a4 a5 : Nat) (b2 b3 b4 b5 v : Bool) (xs : List Int) (ha : a < s.size) (hn : n = wideAt s a)
    (h2 : vl = nuV s (a + 1) false 2 ∧ a2 = tkA s (a + 1) false 2 ∧ b2 = tkB s (a + 1) false 2) (h3 : rt = nuV s a2 b2 2 ∧ a3 = tkA s a2 b2 2 ∧ b3 = tkB s a2 b2 2) (h4 : a4 = tkA s a3 b3 n ∧ b4 = tkB s a3 b3 n)
    (h5 : (N : Int) = nuV s a4 b4 1 ∧ a5 = tkA s a4 b4 1 ∧ b5 = tkB s a4 b4 1) (hx : tkIs s a3 b3 n → v = decide (n = 16) ∧ xs = adrAt s a3 n) : RowK s a n vl rt N a5 b5 v xs := by
  have bad : ∀ {x b m}, b = true → tkB s x b m = true := fun {x b m} h => (tk_no (fun e => by rw [e.1] at h; cases h)).2.2
  by_cases f2 : tkIs s (a + 1) false 2
  · obtain ⟨_, q2, r2⟩ := tk_yes f2
    rw [q2] at h2; rw [r2] at h2
    obtain ⟨e2, rfl, rfl⟩ := h2
    by_cases f3 : tkIs s (a + 1 + 2) false 2
    · obtain ⟨_, q3, r3⟩ := tk_yes f3
      rw [q3] at h3; rw [r3] at h3
      obtain ⟨e3, rfl, rfl⟩ := h3
      by_cases f4 : tkIs s (a + 1 + 2 + 2) false n
      · obtain ⟨_, q4, r4⟩ := tk_yes f4
        rw [q4] at h4; rw [r4] at h4
        obtain ⟨rfl, rfl⟩ := h4
        by_cases f5 : tkIs s (a + 1 + 2 + 2 + n) false 1
        · obtain ⟨_, q5, r5⟩ := tk_yes f5
          rw [q5] at h5; rw [r5] at h5
          obtain ⟨e5, rfl, rfl⟩ := h5
          have g5 := f5.2
          refine ⟨⟨fun _ => by omega, fun _ => rfl⟩, fun _ => ⟨by omega, ?_, ?_, ?_, (hx f4).1, (hx f4).2⟩⟩
          · rw [e2]; exact if_pos f2
          · rw [e3]; exact if_pos f3
          · have : (N : Int) = byt s (a + 1 + 2 + 2 + n) := by rw [e5]; exact if_pos f5
            unfold cntAt
            rw [← hn, show a + 5 + n = a + 1 + 2 + 2 + n by omega]
            omega
        · obtain ⟨_, q5, r5⟩ := tk_no f5
          rw [r5] at h5
          obtain ⟨_, _, rfl⟩ := h5
          have g5 : ¬ a + 1 + 2 + 2 + n + 1 ≤ s.size := fun h => f5 ⟨rfl, h⟩
          exact ⟨⟨fun h => (by cases h), fun h => (by omega)⟩, fun h => (by cases h)⟩
      · obtain ⟨_, q4, r4⟩ := tk_no f4
        rw [r4] at h4
        obtain ⟨_, rfl⟩ := h4
        have g4 : ¬ a + 1 + 2 + 2 + n ≤ s.size := fun h => f4 ⟨rfl, h⟩
        rw [bad rfl] at h5
        obtain ⟨_, _, rfl⟩ := h5
        exact ⟨⟨fun h => (by cases h), fun h => (by omega)⟩, fun h => (by cases h)⟩
    · obtain ⟨_, q3, r3⟩ := tk_no f3
      rw [r3] at h3
      obtain ⟨_, _, rfl⟩ := h3
      have g3 : ¬ a + 1 + 2 + 2 ≤ s.size := fun h => f3 ⟨rfl, h⟩
      rw [bad rfl] at h4
      obtain ⟨_, rfl⟩ := h4
      rw [bad rfl] at h5
      obtain ⟨_, _, rfl⟩ := h5
      exact ⟨⟨fun h => (by cases h), fun h => (by omega)⟩, fun h => (by cases h)⟩
  · obtain ⟨_, q2, r2⟩ := tk_no f2
    rw [r2] at h2
    obtain ⟨_, _, rfl⟩ := h2
    have g2 : ¬ a + 1 + 2 ≤ s.size := fun h => f2 ⟨rfl, h⟩
    rw [bad rfl] at h3
    obtain ⟨_, _, rfl⟩ := h3
    rw [bad rfl] at h4
    obtain ⟨_, rfl⟩ := h4
    rw [bad rfl] at h5
    obtain ⟨_, _, rfl⟩ := h5
    exact ⟨⟨fun h => (by cases h), fun h => (by omega)⟩, fun h => (by cases h)⟩
section
variable {p : Nat} {s : ByteArray} {a : Nat}
set_option maxRecDepth 100000 in
set_option maxHeartbeats 4000000 in
theorem row_any (w : World) (h : RdAt w p s a false) (ha : a < s.size) (hs : s.size ≤ 1000) :
    Calls Try.prog 32 #[.pointer (some ⟨p, 0, none⟩)] w fun e w' => ∃ cs is a' bad, e = .returned (.tuple #[.agg cs.toArray, .bool is]) ∧ RdAt w' p s a' bad ∧ Mod (fun k => k = p) w w' ∧ RowR s a w.heap.size w' cs is a' bad := by
  have hpw : p < w.heap.size := lt_of_block h
  have HRS := Lib.hid rowSz
  have HAS := Lib.hid adrSz
  have HLS := Lib.hid sliceSz
  have h1 : tkIs s a false 1 := ⟨rfl, by omega⟩
  have HN1 : Hid (nuV s a false 1 = byt s a) := Lib.hid (if_pos h1)
  have HA1 : Hid (tkA s a false 1 = a + 1 ∧ tkB s a false 1 = false) := Lib.hid (tk_yes h1).2
  have HR0 := Lib.hid (RdAt.keep h ((Mod.refl (fun _ => False) w).alloc (.cells (rowC 0 false z16 0 (.slice none 0 0)).toArray 38 (0, 0))) fun f => f)
  have HB0 := Lib.hid (Blk.new w 38 (rowC 0 false z16 0 (.slice none 0 0)))
  have HM0 : Hid (Mod (fun k => k = p) w (w.alloc (.cells (rowC 0 false z16 0 (.slice none 0 0)).toArray 38 (0, 0)))) := Lib.hid ((Mod.refl _ _).alloc _)
  clear h h1
  obtain ⟨p2, hp2⟩ : ∃ p2, p2 = w.heap.size := ⟨_, rfl⟩
  rw [← hp2] at HB0
  have hne : p2 ≠ p := by omega
  have HP2 := Lib.hid hp2
  have hb1 := byt_bd s a
  go_enter Try.func32, Try.ntmps32
  go_wp2_with fail
  refine (Num_any 1 (by omega) _ HR0.out (by omega) hs).mono ?_; rintro e w1 ⟨rfl, hR, hM⟩
  rw [HA1.out.1, HA1.out.2] at hR
  rw [HN1.out]
  have HR1 := Lib.hid hR
  have HB1 := Lib.hid (HB0.out.keep hM hne)
  have HM1 : Hid (Mod (fun k => k = p) w w1) := Lib.hid (HM0.out.trans hM fun _ h => .inl h)
  clear hR hM HR0 HB0 HM0 HA1
  rw [← hp2]
  clear hp2
  obtain ⟨wd, hwd⟩ : ∃ wd, wd = wideAt s a := ⟨_, rfl⟩
  have HWD := Lib.hid hwd
  have hwd2 : (byt s a = 1 ∧ wd = 16) ∨ (¬ byt s a = 1 ∧ wd = 4) := by
    rw [hwd]; unfold wideAt; split <;> simp_all
  clear hwd
  rcases hwd2 with ⟨hb, rfl⟩ | ⟨hb, rfl⟩
  · have hq : byt s a = 1 := hb
    have HK : Hid ((decide (byt s a = 1)) = decide (16 = 16)) := Lib.hid (by simp [hb])
    go_wp2_with fail
    -- vlan
    refine (Num_any 2 (by omega) _ HR1.out (by omega) hs).mono ?_; rintro e w2 ⟨rfl, hR, hM⟩
    obtain ⟨n2, hn2⟩ : ∃ n2, n2 = nuV s (a + 1) false 2 := ⟨_, rfl⟩
    obtain ⟨a2, ha2⟩ : ∃ a2, a2 = tkA s (a + 1) false 2 := ⟨_, rfl⟩
    obtain ⟨b2, hb2⟩ : ∃ b2, b2 = tkB s (a + 1) false 2 := ⟨_, rfl⟩
    have l2 : a2 ≤ s.size := by rw [ha2]; exact tkA_le _ _ _ _ (by omega)
    have bd2 : 0 ≤ n2 ∧ n2 < 65536 := by rw [hn2]; exact nuV_bd _ _ _ _
    have e2 : IntKind.i64.wrap n2 = n2 := IntWalk.i64_in _ (by omega)
    rw [← ha2, ← hb2] at hR
    rw [← hn2]
    have HR2 := Lib.hid hR
    have HB2 := Lib.hid (HB1.out.keep hM hne)
    have HM2 : Hid (Mod (fun k => k = p) w w2) := Lib.hid (HM1.out.trans hM fun _ h => .inl h)
    have HE2 : Hid (n2 = nuV s (a + 1) false 2 ∧ a2 = tkA s (a + 1) false 2 ∧ b2 = tkB s (a + 1) false 2) := Lib.hid ⟨hn2, ha2, hb2⟩
    clear hR hM HR1 HB1 HM1 hn2 ha2 hb2
    go_wp2_with fail
    -- root
    refine (Num_any 2 (by omega) _ HR2.out l2 hs).mono ?_; rintro e w3 ⟨rfl, hR, hM⟩
    obtain ⟨n3, hn3⟩ : ∃ n3, n3 = nuV s a2 b2 2 := ⟨_, rfl⟩
    obtain ⟨a3, ha3⟩ : ∃ a3, a3 = tkA s a2 b2 2 := ⟨_, rfl⟩
    obtain ⟨b3, hb3⟩ : ∃ b3, b3 = tkB s a2 b2 2 := ⟨_, rfl⟩
    have l3 : a3 ≤ s.size := by rw [ha3]; exact tkA_le _ _ _ _ l2
    have bd3 : 0 ≤ n3 ∧ n3 < 65536 := by rw [hn3]; exact nuV_bd _ _ _ _
    have e3 : IntKind.i64.wrap n3 = n3 := IntWalk.i64_in _ (by omega)
    rw [← ha3, ← hb3] at hR
    rw [← hn3]
    have HR3 := Lib.hid hR
    have HB3 := Lib.hid (HB2.out.keep hM hne)
    have HM3 : Hid (Mod (fun k => k = p) w w3) := Lib.hid (HM2.out.trans hM fun _ h => .inl h)
    have HE3 : Hid (n3 = nuV s a2 b2 2 ∧ a3 = tkA s a2 b2 2 ∧ b3 = tkB s a2 b2 2) := Lib.hid ⟨hn3, ha3, hb3⟩
    clear hR hM HR2 HB2 HM2 hn3 ha3 hb3
    have hs3 : w.heap.size ≤ w3.heap.size := HM3.out.size
    have HPN : Hid (w3.heap.size ≠ p2) := Lib.hid (by have := HB3.out.lt; omega)
    have HPP : Hid (w3.heap.size ≠ p) := Lib.hid (by omega)
    have HN := Lib.hid (Blk.new w3 38 (rowC 0 false z16 0 (.slice none 0 0)))
    go_wp2_with (first | (refine wpList_store_blk rfl _ _ _ rfl w3.heap.size 0 38 (rowC 0 false z16 0 (.slice none 0 0)) (rowC n2 false z16 n3 (.slice none 0 0)) rfl rfl HN.out (by rw [rowC_len _ _ _ _ _ rfl, rowC_len _ _ _ _ _ rfl]; decide) (by rw [rowC_len _ _ _ _ _ rfl]; exact HRS.out) (rowC_one _ _ _ _ _ rfl) ?_; intro w4 HL4 HM4))
    have HL := Lib.hid (splice_all HL4.out (by rw [rowC_len _ _ _ _ _ rfl, rowC_len _ _ _ _ _ rfl]))
    have HR4 := Lib.hid ((HR3.out.keep ((Mod.refl (fun _ => False) w3).alloc (.cells (rowC 0 false z16 0 (.slice none 0 0)).toArray 38 (0, 0))) fun f => f).keep HM4.out (Ne.symm HPP.out))
    have HB4 := Lib.hid ((HB3.out.alloc (.cells (rowC 0 false z16 0 (.slice none 0 0)).toArray 38 (0, 0))).keep HM4.out (Ne.symm HPN.out))
    have HM5 : Hid (Mod (fun k => k = p) w w4) := Lib.hid ((HM3.out.alloc _).trans HM4.out fun x hx => .inr (by omega))
    obtain ⟨p6, hp6⟩ : ∃ p6, p6 = w3.heap.size := ⟨_, rfl⟩
    rw [← hp6] at HL HPN HPP
    rw [← hp6]
    have HP6 : Hid (w.heap.size ≤ p6) := Lib.hid (by omega)
    clear HR3 HB3 HM3 HM4 HL4 HN hs3 hp6
    -- the address
    refine (Take_any 16 (by omega) _ HR4.out l3 hs).mono ?_; rintro e w5 ⟨rfl, hR, hM⟩
    obtain ⟨a4, ha4⟩ : ∃ a4, a4 = tkA s a3 b3 16 := ⟨_, rfl⟩
    obtain ⟨b4, hb4⟩ : ∃ b4, b4 = tkB s a3 b3 16 := ⟨_, rfl⟩
    have l4 : a4 ≤ s.size := by rw [ha4]; exact tkA_le _ _ _ _ l3
    rw [← ha4, ← hb4] at hR
    have HR5 := Lib.hid hR
    have HB5 := Lib.hid (HB4.out.keep hM hne)
    have HL5 := Lib.hid (HL.out.keep hM HPP.out)
    have HM6 : Hid (Mod (fun k => k = p) w w5) := Lib.hid (HM5.out.trans hM fun _ h => .inl h)
    have HE4 : Hid (a4 = tkA s a3 b3 16 ∧ b4 = tkB s a3 b3 16) := Lib.hid ⟨ha4, hb4⟩
    clear hR hM HR4 HB4 HL HM5 ha4 hb4
    go_wp2_with fail
    refine (addrRead_tk s a3 b3 16 (by decide) _).mono ?_; rintro e w6 ⟨v, xs, c, rfl, hxl, hx, hM⟩
    have HX := Lib.hid hx
    have HXL := Lib.hid hxl
    have HR6 := Lib.hid (HR5.out.keep hM fun f => f)
    have HB6 := Lib.hid (HB5.out.keep hM fun f => f)
    have HL6 := Lib.hid (HL5.out.keep hM fun f => f)
    have HM7 : Hid (Mod (fun k => k = p) w w6) := Lib.hid (HM6.out.trans hM fun _ h => h.elim)
    clear hM HR5 HB5 HL5 HM6 hx hxl
    go_wp2_with (first | (refine wpList_store_blk rfl _ _ _ rfl p6 1 38 (rowC n2 false z16 n3 (.slice none 0 0)) (adrC v xs) rfl rfl HL6.out (by rw [rowC_len _ _ _ _ _ rfl, adrC_len, HXL.out]; decide) (by rw [adrC_len, HXL.out]; exact HAS.out) (adrC_one _ _) ?_; intro w7 HL7 HM8))
    rw [rowC_adr _ _ _ _ _ _ _ rfl HXL.out] at HL7
    have HR7 := Lib.hid (HR6.out.keep HM8.out (Ne.symm HPP.out))
    have HB7 := Lib.hid (HB6.out.keep HM8.out (Ne.symm HPN.out))
    have HM9 : Hid (Mod (fun k => k = p) w w7) := Lib.hid (HM7.out.trans HM8.out fun x hx => .inr (by have := HP6.out; omega))
    clear HR6 HB6 HL6 HM7 HM8
    -- how many
    refine (Num_any 1 (by omega) _ HR7.out l4 hs).mono ?_; rintro e w8 ⟨rfl, hR, hM⟩
    obtain ⟨n5, hn5⟩ : ∃ n5, n5 = nuV s a4 b4 1 := ⟨_, rfl⟩
    obtain ⟨a5, ha5⟩ : ∃ a5, a5 = tkA s a4 b4 1 := ⟨_, rfl⟩
    obtain ⟨b5, hb5⟩ : ∃ b5, b5 = tkB s a4 b4 1 := ⟨_, rfl⟩
    have l5 : a5 ≤ s.size := by rw [ha5]; exact tkA_le _ _ _ _ l4
    have bd5 : 0 ≤ n5 ∧ n5 < 256 := by rw [hn5]; exact nuV_bd1 _ _ _
    rw [← ha5, ← hb5] at hR
    rw [← hn5]
    have HR8 := Lib.hid hR
    have HB8 := Lib.hid (HB7.out.keep hM hne)
    have HL8 := Lib.hid (HL7.out.keep hM HPP.out)
    have HM10 : Hid (Mod (fun k => k = p) w w8) := Lib.hid (HM9.out.trans hM fun _ h => .inl h)
    have HE5 : Hid (n5 = nuV s a4 b4 1 ∧ a5 = tkA s a4 b4 1 ∧ b5 = tkB s a4 b4 1) := Lib.hid ⟨hn5, ha5, hb5⟩
    clear hR hM HR7 HB7 HL7 HM9 hn5 ha5 hb5
    obtain ⟨N, hN⟩ : ∃ N : Nat, n5 = (N : Int) := ⟨n5.toNat, by omega⟩
    subst hN
    have HRO := Lib.hid (Row.nil w8 (fun k => w.heap.size ≤ k) 3 1)
    have HKEY := Lib.hid (row_key s a 16 n2 n3 N a2 a3 a4 a5 b2 b3 b4 b5 v xs ha (by rw [← HWD.out]) HE2.out HE3.out HE4.out HE5.out HX.out)
    clear HE2 HE3 HE4 HE5 HX e2 e3
    go_wp2_with fail
    go_loopw [7] (fun nv wr => ∃ (j m : Nat) (v' : Value) (xs' : List Int) (a' : Nat) (bad : Bool), j + m = N ∧ nv = .int .u64 (m : Int) ∧ RowJ s p p2 p6 a5 b5 (rowC n2 v xs n3) w wr j v' xs' a' bad) (fun nv _ => (intOf nv).toNat)
    case atStart => exact ⟨0, N, _, [], a5, b5, by omega, rfl, HR8.out, l5, HB8.out, HL8.out, HRO.out, rfl, HM10.out, by constructor; exact fun h => ⟨h, by omega⟩; exact fun h => h.1, fun _ => ⟨by omega, rfl⟩⟩
    case round =>
      obtain ⟨j, m, v', xs', a', bad, hjm, rfl, hJ⟩ := hrel
      have HJ := Lib.hid hJ
      have hla := hJ.le
      obtain ⟨ad', cp', hv', hjc, hcm, _⟩ := hJ.row.form
      subst hv'
      unfold maxLen at hcm
      clear hJ HR8 HB8 HL8 HM10 HRO
      have HJM := Lib.hid hjm
      clear hjm
      cases m with
      | zero =>
        go_wp2_with (first | (refine wpList_load_blk rfl _ _ rfl p6 0 rfl 38 (rowC n2 v xs n3 (.slice ad' j cp')) (rowC n2 v xs n3 (.slice ad' j cp')) _ HJ.out.own (List.take_of_length_le (Nat.le_refl _)) Try.underlying38 rfl (by rw [rowC_len _ _ _ _ _ HXL.out]; exact HRS.out) ?_) | (refine wpList_store_blk rfl _ _ _ rfl p2 0 38 (rowC 0 false z16 0 (.slice none 0 0)) (rowC n2 v xs n3 (.slice ad' j cp')) rfl rfl HJ.out.blk (by rw [rowC_len _ _ _ _ _ HXL.out, rowC_len _ _ _ _ _ rfl]; decide) (by rw [rowC_len _ _ _ _ _ HXL.out]; exact HRS.out) (rowC_one _ _ _ _ _ rfl) ?_; intro w9 HB9 HM9))
        have HB10 := Lib.hid (splice_all HB9.out (by rw [rowC_len _ _ _ _ _ HXL.out, rowC_len _ _ _ _ _ rfl]))
        refine bodyPost_ret (results_blk_tmp rfl _ p2 38 (rowC n2 v xs n3 (.slice ad' j cp')) rfl rfl HB10.out Try.underlying38 rfl (by rw [rowC_len _ _ _ _ _ HXL.out]; exact HRS.out)) rfl ?_
        obtain ⟨g1, g2, g3⟩ := row_end HP2.out hne HWD.out (by simp [hb]) HKEY.out HXL.out HJM.out HJ.out HM9.out (.inr rfl) (is := decide (byt s a ≤ 1)) rfl
        refine ⟨_, decide (byt s a ≤ 1), _, _, ?_, g1, g2, g3⟩
        first | rfl | (rw [hb]; rfl)
      | succ m =>
        have hm0 : 0 < ((m + 1 : Nat) : Int) := by omega
        go_wp2_with fail
        refine (bad_any _ HJ.out.rd).mono ?_; rintro e w9 ⟨rfl, rfl⟩
        cases bad with
        | true =>
          go_wp2_with (first | (refine wpList_load_blk rfl _ _ rfl p6 0 rfl 38 (rowC n2 v xs n3 (.slice ad' j cp')) (rowC n2 v xs n3 (.slice ad' j cp')) _ HJ.out.own (List.take_of_length_le (Nat.le_refl _)) Try.underlying38 rfl (by rw [rowC_len _ _ _ _ _ HXL.out]; exact HRS.out) ?_) | (refine wpList_store_blk rfl _ _ _ rfl p2 0 38 (rowC 0 false z16 0 (.slice none 0 0)) (rowC n2 v xs n3 (.slice ad' j cp')) rfl rfl HJ.out.blk (by rw [rowC_len _ _ _ _ _ HXL.out, rowC_len _ _ _ _ _ rfl]; decide) (by rw [rowC_len _ _ _ _ _ HXL.out]; exact HRS.out) (rowC_one _ _ _ _ _ rfl) ?_; intro w9 HB9 HM9))
          have HB10 := Lib.hid (splice_all HB9.out (by rw [rowC_len _ _ _ _ _ HXL.out, rowC_len _ _ _ _ _ rfl]))
          refine bodyPost_ret (results_blk_tmp rfl _ p2 38 (rowC n2 v xs n3 (.slice ad' j cp')) rfl rfl HB10.out Try.underlying38 rfl (by rw [rowC_len _ _ _ _ _ HXL.out]; exact HRS.out)) rfl ?_
          obtain ⟨g1, g2, g3⟩ := row_end HP2.out hne HWD.out (by simp [hb]) HKEY.out HXL.out HJM.out HJ.out HM9.out (.inl rfl) (is := decide (byt s a ≤ 1)) rfl
          refine ⟨_, decide (byt s a ≤ 1), _, _, ?_, g1, g2, g3⟩
          first | rfl | (rw [hb]; rfl)
        | false =>
          have eM : IntKind.u64.wrap (m : Int) = (m : Int) := IntWalk.u64_in _ (by have := HJM.out; omega)
          have eM2 : (m : Int) + 1 - 1 = (m : Int) := by omega
          have hS : wr.drew.cell? ⟨p6, 19, none⟩ = some (.slice ad' j cp') := HJ.out.own.cell (rowC_19 _ _ _ _ _ HXL.out)
          go_wp2_with fail
          refine wp_region_plan [6, 8] [(0, 0), (1, 1), (2, 0), (3, 2), (4, 0), (5, 2), (6, 3), (7, 0), (8, 3)] (fun w' : World => w'.cell? ⟨p6, 19, none⟩ = some (.slice ad' j cp')) (by kernel_rfl) (by kernel_rfl) (fun d _ _ _ _ h => by cases d <;> exact h) ?_
          repeat (first | (refine plan_skip rfl rfl ?_; simp only [List.getElem_toArray, List.getElem_cons_succ, List.getElem_cons_zero, Act.put, List.setIfInBounds_toArray, List.set_cons_zero, List.set_cons_succ]) | (refine plan_pass2 rfl rfl ?_; simp only [List.getElem_toArray, List.getElem_cons_succ, List.getElem_cons_zero, Act.put, List.setIfInBounds_toArray, List.set_cons_zero, List.set_cons_succ]) | (refine plan_pass3 rfl rfl ?_; simp only [List.getElem_toArray, List.getElem_cons_succ, List.getElem_cons_zero, Act.put, List.setIfInBounds_toArray, List.set_cons_zero, List.set_cons_succ]) | (refine plan_take (v := ?_) rfl rfl ?_ ?_; rotate_left; (focus (intro w0; go_simp; try with_reducible rfl)); simp only [List.getElem_toArray, List.getElem_cons_succ, List.getElem_cons_zero, Act.put, List.setIfInBounds_toArray, List.set_cons_zero, List.set_cons_succ]) | (refine plan_held (v := ?_) rfl rfl hS ?_ ?_; rotate_left; (focus (intro w0 hSw; (try dsimp only at hSw); go_split_ands; go_simp; try with_reducible rfl)); simp only [List.getElem_toArray, List.getElem_cons_succ, List.getElem_cons_zero, Act.put, List.setIfInBounds_toArray, List.set_cons_zero, List.set_cons_succ])  | (refine plan_skip1 rfl rfl hS ?_; simp only [List.getElem_toArray, List.getElem_cons_succ, List.getElem_cons_zero, Act.put, List.setIfInBounds_toArray, List.set_cons_zero, List.set_cons_succ]))
          (refine plan_do rfl rfl fun K hK => ?_; try simp only [List.getElem_toArray, List.getElem_cons_succ, List.getElem_cons_zero])
          go_simp
          refine (Num_any 2 (by omega) _ (show RdAt wr.drew p s a' false from HJ.out.rd) hla hs).mono ?_; rintro e w9 ⟨rfl, hR, hM⟩
          obtain ⟨n9, hn9⟩ : ∃ n9, n9 = nuV s a' false 2 := ⟨_, rfl⟩
          have bd9 : 0 ≤ n9 ∧ n9 < 65536 := by rw [hn9]; exact nuV_bd _ _ _ _
          have e9 : IntKind.i64.wrap n9 = n9 := IntWalk.i64_in _ (by omega)
          rw [← hn9]
          have hS9 : w9.cell? ⟨p6, 19, none⟩ = some (.slice ad' j cp') := hM.cell HPP.out hS
          have HN9 := Lib.hid hn9
          have HR9 := Lib.hid hR
          have HM9 : Hid (Mod (fun k => k = p) wr w9) := Lib.hid ((Mod.refl _ _).drew.trans hM fun _ h => .inl h)
          have HRW := Lib.hid (HJ.out.row.keep HM9.out fun k hk e => by omega)
          refine hK _ _ hS9 ?_
          clear hK K hR hM hn9 hS
          try simp only [List.getElem_toArray, List.getElem_cons_succ, List.getElem_cons_zero, Act.put, List.setIfInBounds_toArray, List.set_cons_zero, List.set_cons_succ]
          repeat (first | (refine plan_skip rfl rfl ?_; simp only [List.getElem_toArray, List.getElem_cons_succ, List.getElem_cons_zero, Act.put, List.setIfInBounds_toArray, List.set_cons_zero, List.set_cons_succ]) | (refine plan_pass2 rfl rfl ?_; simp only [List.getElem_toArray, List.getElem_cons_succ, List.getElem_cons_zero, Act.put, List.setIfInBounds_toArray, List.set_cons_zero, List.set_cons_succ]) | (refine plan_pass3 rfl rfl ?_; simp only [List.getElem_toArray, List.getElem_cons_succ, List.getElem_cons_zero, Act.put, List.setIfInBounds_toArray, List.set_cons_zero, List.set_cons_succ]) | (refine plan_take (v := ?_) rfl rfl ?_ ?_; rotate_left; (focus (intro w0; go_simp; try with_reducible rfl)); simp only [List.getElem_toArray, List.getElem_cons_succ, List.getElem_cons_zero, Act.put, List.setIfInBounds_toArray, List.set_cons_zero, List.set_cons_succ]) | (refine plan_held (v := ?_) rfl rfl hS9 ?_ ?_; rotate_left; (focus (intro w0 hSw; (try dsimp only at hSw); go_split_ands; go_simp; try with_reducible rfl)); simp only [List.getElem_toArray, List.getElem_cons_succ, List.getElem_cons_zero, Act.put, List.setIfInBounds_toArray, List.set_cons_zero, List.set_cons_succ])  | (refine plan_skip1 rfl rfl hS9 ?_; simp only [List.getElem_toArray, List.getElem_cons_succ, List.getElem_cons_zero, Act.put, List.setIfInBounds_toArray, List.set_cons_zero, List.set_cons_succ]))
          (refine plan_do rfl rfl fun K hK => ?_; (try simp only [List.getElem_toArray, List.getElem_cons_succ, List.getElem_cons_zero]); go_simp; refine hK _ _ (allocCell _ hS9) ?_; clear hK K; try simp only [List.getElem_toArray, List.getElem_cons_succ, List.getElem_cons_zero, Act.put, List.setIfInBounds_toArray, List.set_cons_zero, List.set_cons_succ])
          repeat (first | (refine plan_skip rfl rfl ?_; simp only [List.getElem_toArray, List.getElem_cons_succ, List.getElem_cons_zero, Act.put, List.setIfInBounds_toArray, List.set_cons_zero, List.set_cons_succ]) | (refine plan_pass2 rfl rfl ?_; simp only [List.getElem_toArray, List.getElem_cons_succ, List.getElem_cons_zero, Act.put, List.setIfInBounds_toArray, List.set_cons_zero, List.set_cons_succ]) | (refine plan_pass3 rfl rfl ?_; simp only [List.getElem_toArray, List.getElem_cons_succ, List.getElem_cons_zero, Act.put, List.setIfInBounds_toArray, List.set_cons_zero, List.set_cons_succ]) | (refine plan_take (v := ?_) rfl rfl ?_ ?_; rotate_left; (focus (intro w0; go_simp; try with_reducible rfl)); simp only [List.getElem_toArray, List.getElem_cons_succ, List.getElem_cons_zero, Act.put, List.setIfInBounds_toArray, List.set_cons_zero, List.set_cons_succ]) | fail )
          (refine plan_end rfl rfl rfl fun K hK => ?_; (try simp only [List.getElem_toArray, List.getElem_cons_succ, List.getElem_cons_zero]))
          refine wp_append_one Try.elI (.tmp 39) (.tmp 43) rfl #[.int .i64 n9] _ _ _ _ (HRW.out.alloc _) _ (allocNew w9 _) rfl rfl rfl (by simp [Value.oneCell']) (by have := HJM.out; omega) (by have := HJM.out; unfold maxLen; omega) ?_
          intro v10 w10 hR10 hm10
          obtain ⟨a10, c10, rfl, _, _, _⟩ := hR10.form
          have HB10 := Lib.hid (HJ.out.next1 HM9.out HPP.out HPN.out hm10)
          have HR10 := Lib.hid hR10
          have HM10 := Lib.hid hm10
          clear hm10 hR10
          refine hK _ _ ?_
          clear hK K
          try simp only [List.getElem_toArray, List.getElem_cons_succ, List.getElem_cons_zero, Act.put, List.setIfInBounds_toArray, List.set_cons_zero, List.set_cons_succ]
          repeat (first | (refine plan_skip rfl rfl ?_; simp only [List.getElem_toArray, List.getElem_cons_succ, List.getElem_cons_zero, Act.put, List.setIfInBounds_toArray, List.set_cons_zero, List.set_cons_succ]) | (refine plan_pass2 rfl rfl ?_; simp only [List.getElem_toArray, List.getElem_cons_succ, List.getElem_cons_zero, Act.put, List.setIfInBounds_toArray, List.set_cons_zero, List.set_cons_succ]) | (refine plan_pass3 rfl rfl ?_; simp only [List.getElem_toArray, List.getElem_cons_succ, List.getElem_cons_zero, Act.put, List.setIfInBounds_toArray, List.set_cons_zero, List.set_cons_succ]) | (refine plan_take (v := ?_) rfl rfl ?_ ?_; rotate_left; (focus (intro w0; go_simp; try with_reducible rfl)); simp only [List.getElem_toArray, List.getElem_cons_succ, List.getElem_cons_zero, Act.put, List.setIfInBounds_toArray, List.set_cons_zero, List.set_cons_succ]) | fail )
          (refine plan_end rfl rfl rfl fun K hK => ?_; (try simp only [List.getElem_toArray, List.getElem_cons_succ, List.getElem_cons_zero]))
          refine wp_store_blk1 31 _ _ rfl p6 19 38 (rowC n2 v xs n3 (.slice ad' j cp')) (.slice a10 (j + 1) c10) rfl rfl HB10.out (by rw [rowC_len _ _ _ _ _ HXL.out]; decide) HLS.out rfl ?_
          intro w11 HL11 HM11
          have HJ2 := Lib.hid (HJ.out.next hpw HP6.out HPP.out HPN.out hne HXL.out HN9.out HR9.out HM9.out HR10.out HM10.out HL11.out HM11.out)
          refine hK _ _ ?_
          clear hK K HR10 HM10 HL11 HM11 HB10 HR9 HM9 HN9 HRW hS9
          try simp only [List.getElem_toArray, List.getElem_cons_succ, List.getElem_cons_zero, Act.put, List.setIfInBounds_toArray, List.set_cons_zero, List.set_cons_succ]
          repeat (first | (refine plan_skip rfl rfl ?_; simp only [List.getElem_toArray, List.getElem_cons_succ, List.getElem_cons_zero, Act.put, List.setIfInBounds_toArray, List.set_cons_zero, List.set_cons_succ]) | (refine plan_pass2 rfl rfl ?_; simp only [List.getElem_toArray, List.getElem_cons_succ, List.getElem_cons_zero, Act.put, List.setIfInBounds_toArray, List.set_cons_zero, List.set_cons_succ]) | (refine plan_pass3 rfl rfl ?_; simp only [List.getElem_toArray, List.getElem_cons_succ, List.getElem_cons_zero, Act.put, List.setIfInBounds_toArray, List.set_cons_zero, List.set_cons_succ]) | (refine plan_take (v := ?_) rfl rfl ?_ ?_; rotate_left; (focus (intro w0; go_simp; try with_reducible rfl)); simp only [List.getElem_toArray, List.getElem_cons_succ, List.getElem_cons_zero, Act.put, List.setIfInBounds_toArray, List.set_cons_zero, List.set_cons_succ]) | fail )
          refine plan_nil ?_
          go_wp2
          go_roundw
          case rel => exact ⟨j + 1, m, _, _, _, _, by have := HJM.out; omega, by go_num, HJ2.out⟩
          case measure => simp [intOf]
  · have hq : byt s a ≠ 1 := hb
    have HK : Hid ((decide (byt s a = 1)) = decide (4 = 16)) := Lib.hid (by simp [hb])
    go_wp2_with fail
    -- vlan
    refine (Num_any 2 (by omega) _ HR1.out (by omega) hs).mono ?_; rintro e w2 ⟨rfl, hR, hM⟩
    obtain ⟨n2, hn2⟩ : ∃ n2, n2 = nuV s (a + 1) false 2 := ⟨_, rfl⟩
    obtain ⟨a2, ha2⟩ : ∃ a2, a2 = tkA s (a + 1) false 2 := ⟨_, rfl⟩
    obtain ⟨b2, hb2⟩ : ∃ b2, b2 = tkB s (a + 1) false 2 := ⟨_, rfl⟩
    have l2 : a2 ≤ s.size := by rw [ha2]; exact tkA_le _ _ _ _ (by omega)
    have bd2 : 0 ≤ n2 ∧ n2 < 65536 := by rw [hn2]; exact nuV_bd _ _ _ _
    have e2 : IntKind.i64.wrap n2 = n2 := IntWalk.i64_in _ (by omega)
    rw [← ha2, ← hb2] at hR
    rw [← hn2]
    have HR2 := Lib.hid hR
    have HB2 := Lib.hid (HB1.out.keep hM hne)
    have HM2 : Hid (Mod (fun k => k = p) w w2) := Lib.hid (HM1.out.trans hM fun _ h => .inl h)
    have HE2 : Hid (n2 = nuV s (a + 1) false 2 ∧ a2 = tkA s (a + 1) false 2 ∧ b2 = tkB s (a + 1) false 2) := Lib.hid ⟨hn2, ha2, hb2⟩
    clear hR hM HR1 HB1 HM1 hn2 ha2 hb2
    go_wp2_with fail
    -- root
    refine (Num_any 2 (by omega) _ HR2.out l2 hs).mono ?_; rintro e w3 ⟨rfl, hR, hM⟩
    obtain ⟨n3, hn3⟩ : ∃ n3, n3 = nuV s a2 b2 2 := ⟨_, rfl⟩
    obtain ⟨a3, ha3⟩ : ∃ a3, a3 = tkA s a2 b2 2 := ⟨_, rfl⟩
    obtain ⟨b3, hb3⟩ : ∃ b3, b3 = tkB s a2 b2 2 := ⟨_, rfl⟩
    have l3 : a3 ≤ s.size := by rw [ha3]; exact tkA_le _ _ _ _ l2
    have bd3 : 0 ≤ n3 ∧ n3 < 65536 := by rw [hn3]; exact nuV_bd _ _ _ _
    have e3 : IntKind.i64.wrap n3 = n3 := IntWalk.i64_in _ (by omega)
    rw [← ha3, ← hb3] at hR
    rw [← hn3]
    have HR3 := Lib.hid hR
    have HB3 := Lib.hid (HB2.out.keep hM hne)
    have HM3 : Hid (Mod (fun k => k = p) w w3) := Lib.hid (HM2.out.trans hM fun _ h => .inl h)
    have HE3 : Hid (n3 = nuV s a2 b2 2 ∧ a3 = tkA s a2 b2 2 ∧ b3 = tkB s a2 b2 2) := Lib.hid ⟨hn3, ha3, hb3⟩
    clear hR hM HR2 HB2 HM2 hn3 ha3 hb3
    have hs3 : w.heap.size ≤ w3.heap.size := HM3.out.size
    have HPN : Hid (w3.heap.size ≠ p2) := Lib.hid (by have := HB3.out.lt; omega)
    have HPP : Hid (w3.heap.size ≠ p) := Lib.hid (by omega)
    have HN := Lib.hid (Blk.new w3 38 (rowC 0 false z16 0 (.slice none 0 0)))
    go_wp2_with (first | (refine wpList_store_blk rfl _ _ _ rfl w3.heap.size 0 38 (rowC 0 false z16 0 (.slice none 0 0)) (rowC n2 false z16 n3 (.slice none 0 0)) rfl rfl HN.out (by rw [rowC_len _ _ _ _ _ rfl, rowC_len _ _ _ _ _ rfl]; decide) (by rw [rowC_len _ _ _ _ _ rfl]; exact HRS.out) (rowC_one _ _ _ _ _ rfl) ?_; intro w4 HL4 HM4))
    have HL := Lib.hid (splice_all HL4.out (by rw [rowC_len _ _ _ _ _ rfl, rowC_len _ _ _ _ _ rfl]))
    have HR4 := Lib.hid ((HR3.out.keep ((Mod.refl (fun _ => False) w3).alloc (.cells (rowC 0 false z16 0 (.slice none 0 0)).toArray 38 (0, 0))) fun f => f).keep HM4.out (Ne.symm HPP.out))
    have HB4 := Lib.hid ((HB3.out.alloc (.cells (rowC 0 false z16 0 (.slice none 0 0)).toArray 38 (0, 0))).keep HM4.out (Ne.symm HPN.out))
    have HM5 : Hid (Mod (fun k => k = p) w w4) := Lib.hid ((HM3.out.alloc _).trans HM4.out fun x hx => .inr (by omega))
    obtain ⟨p6, hp6⟩ : ∃ p6, p6 = w3.heap.size := ⟨_, rfl⟩
    rw [← hp6] at HL HPN HPP
    rw [← hp6]
    have HP6 : Hid (w.heap.size ≤ p6) := Lib.hid (by omega)
    clear HR3 HB3 HM3 HM4 HL4 HN hs3 hp6
    -- the address
    refine (Take_any 4 (by omega) _ HR4.out l3 hs).mono ?_; rintro e w5 ⟨rfl, hR, hM⟩
    obtain ⟨a4, ha4⟩ : ∃ a4, a4 = tkA s a3 b3 4 := ⟨_, rfl⟩
    obtain ⟨b4, hb4⟩ : ∃ b4, b4 = tkB s a3 b3 4 := ⟨_, rfl⟩
    have l4 : a4 ≤ s.size := by rw [ha4]; exact tkA_le _ _ _ _ l3
    rw [← ha4, ← hb4] at hR
    have HR5 := Lib.hid hR
    have HB5 := Lib.hid (HB4.out.keep hM hne)
    have HL5 := Lib.hid (HL.out.keep hM HPP.out)
    have HM6 : Hid (Mod (fun k => k = p) w w5) := Lib.hid (HM5.out.trans hM fun _ h => .inl h)
    have HE4 : Hid (a4 = tkA s a3 b3 4 ∧ b4 = tkB s a3 b3 4) := Lib.hid ⟨ha4, hb4⟩
    clear hR hM HR4 HB4 HL HM5 ha4 hb4
    go_wp2_with fail
    refine (addrRead_tk s a3 b3 4 (by decide) _).mono ?_; rintro e w6 ⟨v, xs, c, rfl, hxl, hx, hM⟩
    have HX := Lib.hid hx
    have HXL := Lib.hid hxl
    have HR6 := Lib.hid (HR5.out.keep hM fun f => f)
    have HB6 := Lib.hid (HB5.out.keep hM fun f => f)
    have HL6 := Lib.hid (HL5.out.keep hM fun f => f)
    have HM7 : Hid (Mod (fun k => k = p) w w6) := Lib.hid (HM6.out.trans hM fun _ h => h.elim)
    clear hM HR5 HB5 HL5 HM6 hx hxl
    go_wp2_with (first | (refine wpList_store_blk rfl _ _ _ rfl p6 1 38 (rowC n2 false z16 n3 (.slice none 0 0)) (adrC v xs) rfl rfl HL6.out (by rw [rowC_len _ _ _ _ _ rfl, adrC_len, HXL.out]; decide) (by rw [adrC_len, HXL.out]; exact HAS.out) (adrC_one _ _) ?_; intro w7 HL7 HM8))
    rw [rowC_adr _ _ _ _ _ _ _ rfl HXL.out] at HL7
    have HR7 := Lib.hid (HR6.out.keep HM8.out (Ne.symm HPP.out))
    have HB7 := Lib.hid (HB6.out.keep HM8.out (Ne.symm HPN.out))
    have HM9 : Hid (Mod (fun k => k = p) w w7) := Lib.hid (HM7.out.trans HM8.out fun x hx => .inr (by have := HP6.out; omega))
    clear HR6 HB6 HL6 HM7 HM8
    -- how many
    refine (Num_any 1 (by omega) _ HR7.out l4 hs).mono ?_; rintro e w8 ⟨rfl, hR, hM⟩
    obtain ⟨n5, hn5⟩ : ∃ n5, n5 = nuV s a4 b4 1 := ⟨_, rfl⟩
    obtain ⟨a5, ha5⟩ : ∃ a5, a5 = tkA s a4 b4 1 := ⟨_, rfl⟩
    obtain ⟨b5, hb5⟩ : ∃ b5, b5 = tkB s a4 b4 1 := ⟨_, rfl⟩
    have l5 : a5 ≤ s.size := by rw [ha5]; exact tkA_le _ _ _ _ l4
    have bd5 : 0 ≤ n5 ∧ n5 < 256 := by rw [hn5]; exact nuV_bd1 _ _ _
    rw [← ha5, ← hb5] at hR
    rw [← hn5]
    have HR8 := Lib.hid hR
    have HB8 := Lib.hid (HB7.out.keep hM hne)
    have HL8 := Lib.hid (HL7.out.keep hM HPP.out)
    have HM10 : Hid (Mod (fun k => k = p) w w8) := Lib.hid (HM9.out.trans hM fun _ h => .inl h)
    have HE5 : Hid (n5 = nuV s a4 b4 1 ∧ a5 = tkA s a4 b4 1 ∧ b5 = tkB s a4 b4 1) := Lib.hid ⟨hn5, ha5, hb5⟩
    clear hR hM HR7 HB7 HL7 HM9 hn5 ha5 hb5
    obtain ⟨N, hN⟩ : ∃ N : Nat, n5 = (N : Int) := ⟨n5.toNat, by omega⟩
    subst hN
    have HRO := Lib.hid (Row.nil w8 (fun k => w.heap.size ≤ k) 3 1)
    have HKEY := Lib.hid (row_key s a 4 n2 n3 N a2 a3 a4 a5 b2 b3 b4 b5 v xs ha (by rw [← HWD.out]) HE2.out HE3.out HE4.out HE5.out HX.out)
    clear HE2 HE3 HE4 HE5 HX e2 e3
    go_wp2_with fail
    go_loopw [7] (fun nv wr => ∃ (j m : Nat) (v' : Value) (xs' : List Int) (a' : Nat) (bad : Bool), j + m = N ∧ nv = .int .u64 (m : Int) ∧ RowJ s p p2 p6 a5 b5 (rowC n2 v xs n3) w wr j v' xs' a' bad) (fun nv _ => (intOf nv).toNat)
    case atStart => exact ⟨0, N, _, [], a5, b5, by omega, rfl, HR8.out, l5, HB8.out, HL8.out, HRO.out, rfl, HM10.out, by constructor; exact fun h => ⟨h, by omega⟩; exact fun h => h.1, fun _ => ⟨by omega, rfl⟩⟩
    case round =>
      obtain ⟨j, m, v', xs', a', bad, hjm, rfl, hJ⟩ := hrel
      have HJ := Lib.hid hJ
      have hla := hJ.le
      obtain ⟨ad', cp', hv', hjc, hcm, _⟩ := hJ.row.form
      subst hv'
      unfold maxLen at hcm
      clear hJ HR8 HB8 HL8 HM10 HRO
      have HJM := Lib.hid hjm
      clear hjm
      cases m with
      | zero =>
        go_wp2_with (first | (refine wpList_load_blk rfl _ _ rfl p6 0 rfl 38 (rowC n2 v xs n3 (.slice ad' j cp')) (rowC n2 v xs n3 (.slice ad' j cp')) _ HJ.out.own (List.take_of_length_le (Nat.le_refl _)) Try.underlying38 rfl (by rw [rowC_len _ _ _ _ _ HXL.out]; exact HRS.out) ?_) | (refine wpList_store_blk rfl _ _ _ rfl p2 0 38 (rowC 0 false z16 0 (.slice none 0 0)) (rowC n2 v xs n3 (.slice ad' j cp')) rfl rfl HJ.out.blk (by rw [rowC_len _ _ _ _ _ HXL.out, rowC_len _ _ _ _ _ rfl]; decide) (by rw [rowC_len _ _ _ _ _ HXL.out]; exact HRS.out) (rowC_one _ _ _ _ _ rfl) ?_; intro w9 HB9 HM9))
        have HB10 := Lib.hid (splice_all HB9.out (by rw [rowC_len _ _ _ _ _ HXL.out, rowC_len _ _ _ _ _ rfl]))
        refine bodyPost_ret (results_blk_tmp rfl _ p2 38 (rowC n2 v xs n3 (.slice ad' j cp')) rfl rfl HB10.out Try.underlying38 rfl (by rw [rowC_len _ _ _ _ _ HXL.out]; exact HRS.out)) rfl ?_
        obtain ⟨g1, g2, g3⟩ := row_end HP2.out hne HWD.out (by simp [hb]) HKEY.out HXL.out HJM.out HJ.out HM9.out (.inr rfl) (is := decide (byt s a ≤ 1)) rfl
        refine ⟨_, decide (byt s a ≤ 1), _, _, ?_, g1, g2, g3⟩
        first | rfl | (rw [hb]; rfl)
      | succ m =>
        have hm0 : 0 < ((m + 1 : Nat) : Int) := by omega
        go_wp2_with fail
        refine (bad_any _ HJ.out.rd).mono ?_; rintro e w9 ⟨rfl, rfl⟩
        cases bad with
        | true =>
          go_wp2_with (first | (refine wpList_load_blk rfl _ _ rfl p6 0 rfl 38 (rowC n2 v xs n3 (.slice ad' j cp')) (rowC n2 v xs n3 (.slice ad' j cp')) _ HJ.out.own (List.take_of_length_le (Nat.le_refl _)) Try.underlying38 rfl (by rw [rowC_len _ _ _ _ _ HXL.out]; exact HRS.out) ?_) | (refine wpList_store_blk rfl _ _ _ rfl p2 0 38 (rowC 0 false z16 0 (.slice none 0 0)) (rowC n2 v xs n3 (.slice ad' j cp')) rfl rfl HJ.out.blk (by rw [rowC_len _ _ _ _ _ HXL.out, rowC_len _ _ _ _ _ rfl]; decide) (by rw [rowC_len _ _ _ _ _ HXL.out]; exact HRS.out) (rowC_one _ _ _ _ _ rfl) ?_; intro w9 HB9 HM9))
          have HB10 := Lib.hid (splice_all HB9.out (by rw [rowC_len _ _ _ _ _ HXL.out, rowC_len _ _ _ _ _ rfl]))
          refine bodyPost_ret (results_blk_tmp rfl _ p2 38 (rowC n2 v xs n3 (.slice ad' j cp')) rfl rfl HB10.out Try.underlying38 rfl (by rw [rowC_len _ _ _ _ _ HXL.out]; exact HRS.out)) rfl ?_
          obtain ⟨g1, g2, g3⟩ := row_end HP2.out hne HWD.out (by simp [hb]) HKEY.out HXL.out HJM.out HJ.out HM9.out (.inl rfl) (is := decide (byt s a ≤ 1)) rfl
          refine ⟨_, decide (byt s a ≤ 1), _, _, ?_, g1, g2, g3⟩
          first | rfl | (rw [hb]; rfl)
        | false =>
          have eM : IntKind.u64.wrap (m : Int) = (m : Int) := IntWalk.u64_in _ (by have := HJM.out; omega)
          have eM2 : (m : Int) + 1 - 1 = (m : Int) := by omega
          have hS : wr.drew.cell? ⟨p6, 19, none⟩ = some (.slice ad' j cp') := HJ.out.own.cell (rowC_19 _ _ _ _ _ HXL.out)
          go_wp2_with fail
          refine wp_region_plan [6, 8] [(0, 0), (1, 1), (2, 0), (3, 2), (4, 0), (5, 2), (6, 3), (7, 0), (8, 3)] (fun w' : World => w'.cell? ⟨p6, 19, none⟩ = some (.slice ad' j cp')) (by kernel_rfl) (by kernel_rfl) (fun d _ _ _ _ h => by cases d <;> exact h) ?_
          repeat (first | (refine plan_skip rfl rfl ?_; simp only [List.getElem_toArray, List.getElem_cons_succ, List.getElem_cons_zero, Act.put, List.setIfInBounds_toArray, List.set_cons_zero, List.set_cons_succ]) | (refine plan_pass2 rfl rfl ?_; simp only [List.getElem_toArray, List.getElem_cons_succ, List.getElem_cons_zero, Act.put, List.setIfInBounds_toArray, List.set_cons_zero, List.set_cons_succ]) | (refine plan_pass3 rfl rfl ?_; simp only [List.getElem_toArray, List.getElem_cons_succ, List.getElem_cons_zero, Act.put, List.setIfInBounds_toArray, List.set_cons_zero, List.set_cons_succ]) | (refine plan_take (v := ?_) rfl rfl ?_ ?_; rotate_left; (focus (intro w0; go_simp; try with_reducible rfl)); simp only [List.getElem_toArray, List.getElem_cons_succ, List.getElem_cons_zero, Act.put, List.setIfInBounds_toArray, List.set_cons_zero, List.set_cons_succ]) | (refine plan_held (v := ?_) rfl rfl hS ?_ ?_; rotate_left; (focus (intro w0 hSw; (try dsimp only at hSw); go_split_ands; go_simp; try with_reducible rfl)); simp only [List.getElem_toArray, List.getElem_cons_succ, List.getElem_cons_zero, Act.put, List.setIfInBounds_toArray, List.set_cons_zero, List.set_cons_succ])  | (refine plan_skip1 rfl rfl hS ?_; simp only [List.getElem_toArray, List.getElem_cons_succ, List.getElem_cons_zero, Act.put, List.setIfInBounds_toArray, List.set_cons_zero, List.set_cons_succ]))
          (refine plan_do rfl rfl fun K hK => ?_; try simp only [List.getElem_toArray, List.getElem_cons_succ, List.getElem_cons_zero])
          go_simp
          refine (Num_any 2 (by omega) _ (show RdAt wr.drew p s a' false from HJ.out.rd) hla hs).mono ?_; rintro e w9 ⟨rfl, hR, hM⟩
          obtain ⟨n9, hn9⟩ : ∃ n9, n9 = nuV s a' false 2 := ⟨_, rfl⟩
          have bd9 : 0 ≤ n9 ∧ n9 < 65536 := by rw [hn9]; exact nuV_bd _ _ _ _
          have e9 : IntKind.i64.wrap n9 = n9 := IntWalk.i64_in _ (by omega)
          rw [← hn9]
          have hS9 : w9.cell? ⟨p6, 19, none⟩ = some (.slice ad' j cp') := hM.cell HPP.out hS
          have HN9 := Lib.hid hn9
          have HR9 := Lib.hid hR
          have HM9 : Hid (Mod (fun k => k = p) wr w9) := Lib.hid ((Mod.refl _ _).drew.trans hM fun _ h => .inl h)
          have HRW := Lib.hid (HJ.out.row.keep HM9.out fun k hk e => by omega)
          refine hK _ _ hS9 ?_
          clear hK K hR hM hn9 hS
          try simp only [List.getElem_toArray, List.getElem_cons_succ, List.getElem_cons_zero, Act.put, List.setIfInBounds_toArray, List.set_cons_zero, List.set_cons_succ]
          repeat (first | (refine plan_skip rfl rfl ?_; simp only [List.getElem_toArray, List.getElem_cons_succ, List.getElem_cons_zero, Act.put, List.setIfInBounds_toArray, List.set_cons_zero, List.set_cons_succ]) | (refine plan_pass2 rfl rfl ?_; simp only [List.getElem_toArray, List.getElem_cons_succ, List.getElem_cons_zero, Act.put, List.setIfInBounds_toArray, List.set_cons_zero, List.set_cons_succ]) | (refine plan_pass3 rfl rfl ?_; simp only [List.getElem_toArray, List.getElem_cons_succ, List.getElem_cons_zero, Act.put, List.setIfInBounds_toArray, List.set_cons_zero, List.set_cons_succ]) | (refine plan_take (v := ?_) rfl rfl ?_ ?_; rotate_left; (focus (intro w0; go_simp; try with_reducible rfl)); simp only [List.getElem_toArray, List.getElem_cons_succ, List.getElem_cons_zero, Act.put, List.setIfInBounds_toArray, List.set_cons_zero, List.set_cons_succ]) | (refine plan_held (v := ?_) rfl rfl hS9 ?_ ?_; rotate_left; (focus (intro w0 hSw; (try dsimp only at hSw); go_split_ands; go_simp; try with_reducible rfl)); simp only [List.getElem_toArray, List.getElem_cons_succ, List.getElem_cons_zero, Act.put, List.setIfInBounds_toArray, List.set_cons_zero, List.set_cons_succ])  | (refine plan_skip1 rfl rfl hS9 ?_; simp only [List.getElem_toArray, List.getElem_cons_succ, List.getElem_cons_zero, Act.put, List.setIfInBounds_toArray, List.set_cons_zero, List.set_cons_succ]))
          (refine plan_do rfl rfl fun K hK => ?_; (try simp only [List.getElem_toArray, List.getElem_cons_succ, List.getElem_cons_zero]); go_simp; refine hK _ _ (allocCell _ hS9) ?_; clear hK K; try simp only [List.getElem_toArray, List.getElem_cons_succ, List.getElem_cons_zero, Act.put, List.setIfInBounds_toArray, List.set_cons_zero, List.set_cons_succ])
          repeat (first | (refine plan_skip rfl rfl ?_; simp only [List.getElem_toArray, List.getElem_cons_succ, List.getElem_cons_zero, Act.put, List.setIfInBounds_toArray, List.set_cons_zero, List.set_cons_succ]) | (refine plan_pass2 rfl rfl ?_; simp only [List.getElem_toArray, List.getElem_cons_succ, List.getElem_cons_zero, Act.put, List.setIfInBounds_toArray, List.set_cons_zero, List.set_cons_succ]) | (refine plan_pass3 rfl rfl ?_; simp only [List.getElem_toArray, List.getElem_cons_succ, List.getElem_cons_zero, Act.put, List.setIfInBounds_toArray, List.set_cons_zero, List.set_cons_succ]) | (refine plan_take (v := ?_) rfl rfl ?_ ?_; rotate_left; (focus (intro w0; go_simp; try with_reducible rfl)); simp only [List.getElem_toArray, List.getElem_cons_succ, List.getElem_cons_zero, Act.put, List.setIfInBounds_toArray, List.set_cons_zero, List.set_cons_succ]) | fail )
          (refine plan_end rfl rfl rfl fun K hK => ?_; (try simp only [List.getElem_toArray, List.getElem_cons_succ, List.getElem_cons_zero]))
          refine wp_append_one Try.elI (.tmp 39) (.tmp 43) rfl #[.int .i64 n9] _ _ _ _ (HRW.out.alloc _) _ (allocNew w9 _) rfl rfl rfl (by simp [Value.oneCell']) (by have := HJM.out; omega) (by have := HJM.out; unfold maxLen; omega) ?_
          intro v10 w10 hR10 hm10
          obtain ⟨a10, c10, rfl, _, _, _⟩ := hR10.form
          have HB10 := Lib.hid (HJ.out.next1 HM9.out HPP.out HPN.out hm10)
          have HR10 := Lib.hid hR10
          have HM10 := Lib.hid hm10
          clear hm10 hR10
          refine hK _ _ ?_
          clear hK K
          try simp only [List.getElem_toArray, List.getElem_cons_succ, List.getElem_cons_zero, Act.put, List.setIfInBounds_toArray, List.set_cons_zero, List.set_cons_succ]
          repeat (first | (refine plan_skip rfl rfl ?_; simp only [List.getElem_toArray, List.getElem_cons_succ, List.getElem_cons_zero, Act.put, List.setIfInBounds_toArray, List.set_cons_zero, List.set_cons_succ]) | (refine plan_pass2 rfl rfl ?_; simp only [List.getElem_toArray, List.getElem_cons_succ, List.getElem_cons_zero, Act.put, List.setIfInBounds_toArray, List.set_cons_zero, List.set_cons_succ]) | (refine plan_pass3 rfl rfl ?_; simp only [List.getElem_toArray, List.getElem_cons_succ, List.getElem_cons_zero, Act.put, List.setIfInBounds_toArray, List.set_cons_zero, List.set_cons_succ]) | (refine plan_take (v := ?_) rfl rfl ?_ ?_; rotate_left; (focus (intro w0; go_simp; try with_reducible rfl)); simp only [List.getElem_toArray, List.getElem_cons_succ, List.getElem_cons_zero, Act.put, List.setIfInBounds_toArray, List.set_cons_zero, List.set_cons_succ]) | fail )
          (refine plan_end rfl rfl rfl fun K hK => ?_; (try simp only [List.getElem_toArray, List.getElem_cons_succ, List.getElem_cons_zero]))
          refine wp_store_blk1 31 _ _ rfl p6 19 38 (rowC n2 v xs n3 (.slice ad' j cp')) (.slice a10 (j + 1) c10) rfl rfl HB10.out (by rw [rowC_len _ _ _ _ _ HXL.out]; decide) HLS.out rfl ?_
          intro w11 HL11 HM11
          have HJ2 := Lib.hid (HJ.out.next hpw HP6.out HPP.out HPN.out hne HXL.out HN9.out HR9.out HM9.out HR10.out HM10.out HL11.out HM11.out)
          refine hK _ _ ?_
          clear hK K HR10 HM10 HL11 HM11 HB10 HR9 HM9 HN9 HRW hS9
          try simp only [List.getElem_toArray, List.getElem_cons_succ, List.getElem_cons_zero, Act.put, List.setIfInBounds_toArray, List.set_cons_zero, List.set_cons_succ]
          repeat (first | (refine plan_skip rfl rfl ?_; simp only [List.getElem_toArray, List.getElem_cons_succ, List.getElem_cons_zero, Act.put, List.setIfInBounds_toArray, List.set_cons_zero, List.set_cons_succ]) | (refine plan_pass2 rfl rfl ?_; simp only [List.getElem_toArray, List.getElem_cons_succ, List.getElem_cons_zero, Act.put, List.setIfInBounds_toArray, List.set_cons_zero, List.set_cons_succ]) | (refine plan_pass3 rfl rfl ?_; simp only [List.getElem_toArray, List.getElem_cons_succ, List.getElem_cons_zero, Act.put, List.setIfInBounds_toArray, List.set_cons_zero, List.set_cons_succ]) | (refine plan_take (v := ?_) rfl rfl ?_ ?_; rotate_left; (focus (intro w0; go_simp; try with_reducible rfl)); simp only [List.getElem_toArray, List.getElem_cons_succ, List.getElem_cons_zero, Act.put, List.setIfInBounds_toArray, List.set_cons_zero, List.set_cons_succ]) | fail )
          refine plan_nil ?_
          go_wp2
          go_roundw
          case rel => exact ⟨j + 1, m, _, _, _, _, by have := HJM.out; omega, by go_num, HJ2.out⟩
          case measure => simp [intOf]
end
end Go.Proofs.Ytegjamjognpdkaa
