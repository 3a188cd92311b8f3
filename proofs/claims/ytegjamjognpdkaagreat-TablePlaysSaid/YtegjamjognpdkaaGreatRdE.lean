/- Rows in memory. (For a seat that reads no bytes.) -/
import Derived.Test.YtegjamjognpdkaaGreatRowM
import Derived.Test.YtegjamjognpdkaaGreatBlk
namespace Go.Proofs.YtegjamjognpdkaaGreat
open Go.RowKit
set_option linter.unusedVariables false
set_option linter.unusedSimpArgs false
theorem adrSz : (Tryz.prog.info? 25).map (·.size) = some 17 := by kernel_rfl
theorem u8Sz : (Tryz.prog.info? 5).map (·.size) = some 1 := by kernel_rfl
def z16 : List Int := List.replicate 16 0
theorem adrC_one (v : Bool) (xs : List Int) : ∀ u ∈ adrC v xs, u.oneCell' = true := by
  intro u hu
  unfold adrC at hu
  rcases List.mem_cons.1 hu with rfl | hu
  · rfl
  · obtain ⟨x, _, rfl⟩ := List.mem_map.1 hu
    rfl
theorem adrC_len (v : Bool) (xs : List Int) : (adrC v xs).length = xs.length + 1 := by simp [adrC]
theorem splice_all {w : World} {g : Nat} {t : TypeId} {cur cs : List Value} (h : Blk w g t (splice cur 0 cs)) (hl : cs.length = cur.length) : Blk w g t cs := by
  have : splice cur 0 cs = cs := by unfold splice; simp [hl]
  rwa [this] at h
def cellsR (sv : Nat → Value) : Nat → List TRow → List Value
  | _, [] => []
  | k, r :: l => r.c (sv k) ++ cellsR sv (k + 1) l
def adrOk (b : List Int) : Prop := b.length = 16 ∧ ∀ x ∈ b, 0 ≤ x ∧ x < 256
def rowsOk (rs : List TRow) : Prop := ∀ r ∈ rs, adrOk r.b
theorem cellsR_len (sv : Nat → Value) : ∀ (l : List TRow) (k : Nat), rowsOk l → (cellsR sv k l).length = l.length * 20
  | [], _, _ => rfl
  | r :: l, k, h => by
    rw [cellsR, List.length_append, cellsR_len sv l (k + 1) fun x hx => h x (List.mem_cons_of_mem _ hx), TRow.c, rowC_len _ _ _ _ _ (h r List.mem_cons_self).1, List.length_cons]
    omega
theorem cellsR_snoc (sv : Nat → Value) (r : TRow) : ∀ (l : List TRow) (k : Nat), cellsR sv k (l ++ [r]) = cellsR sv k l ++ r.c (sv (k + l.length))
  | [], k => by simp [cellsR]
  | x :: l, k => by
    rw [List.cons_append, cellsR, cellsR, cellsR_snoc sv r l (k + 1), List.append_assoc, show k + (x :: l).length = k + 1 + l.length by rw [List.length_cons]; omega]
theorem cellsR_ext (sv sv' : Nat → Value) : ∀ (l : List TRow) (k : Nat), (∀ i, i < l.length → sv (k + i) = sv' (k + i)) → cellsR sv k l = cellsR sv' k l
  | [], _, _ => rfl
  | r :: l, k, h => by
    rw [cellsR, cellsR, show sv k = sv' k from h 0 (by simp), cellsR_ext sv sv' l (k + 1) fun i hi => by have := h (i + 1) (by simp; omega); rw [show k + 1 + i = k + (i + 1) by omega]; exact this]
theorem cellsR_get (sv : Nat → Value) : ∀ (l : List TRow) (k i : Nat) (r : TRow), rowsOk l → l[i]? = some r → ((cellsR sv k l).drop (i * 20)).take 20 = r.c (sv (k + i))
  | [], _, _, _, _, h => by simp at h
  | x :: l, k, 0, r, hok, h => by
    simp at h
    subst h
    rw [cellsR, Nat.zero_mul, List.drop_zero]
    exact List.take_left' (by rw [TRow.c, rowC_len _ _ _ _ _ (hok _ List.mem_cons_self).1])
  | x :: l, k, i + 1, r, hok, h => by
    have hl : (x.c (sv k)).length = 20 := by rw [TRow.c, rowC_len _ _ _ _ _ (hok _ List.mem_cons_self).1]
    rw [cellsR, show (i + 1) * 20 = (x.c (sv k)).length + i * 20 by omega, List.drop_length_add_append, cellsR_get sv l (k + 1) i r (fun y hy => hok y (List.mem_cons_of_mem _ hy)) (by simpa using h)]
    congr 2
    omega
/-- rows in a slice of one's own -/
structure RowsOwn (w : World) (f : Nat → Prop) (v : Value) (rs : List TRow) (sv : Nat → Value) : Prop where
  row : Row w f 28 20 v rs.length (cellsR sv 0 rs)
  ok : rowsOk rs
  next : ∀ i r, rs[i]? = some r → Row w f 3 1 (sv i) r.next.length (ints r.next)
theorem RowsOwn.nil (w : World) (f : Nat → Prop) (sv : Nat → Value) : RowsOwn w f (.slice none 0 0) [] sv := ⟨Row.nil _ _ _ _, fun r hr => (by cases hr), fun i r h => (by simp at h)⟩
theorem RowsOwn.keep {w w' : World} {F f : Nat → Prop} {v : Value} {rs : List TRow} {sv : Nat → Value} (h : RowsOwn w f v rs sv) (hm : Mod F w w') (hd : ∀ k, f k → ¬ F k) : RowsOwn w' f v rs sv :=
  ⟨h.row.keep hm hd, h.ok, fun i r hr => (h.next i r hr).keep hm hd⟩
/-- one more -/
theorem RowsOwn.snoc {w w1 : World} {f f' : Nat → Prop} {v v' : Value} {rs : List TRow} {sv : Nat → Value} {r : TRow} {u : Value} (h : RowsOwn w f v rs sv) (hr : Row w f 3 1 u r.next.length (ints r.next)) (hb : adrOk r.b)
    (hrow : Row w1 f' 28 20 v' (rs.length + 1) (cellsR sv 0 rs ++ r.c u)) (hm : Mod (fun k => v.ownBlock = some k) w w1) (hf : ∀ k, f k → f' k) :
    RowsOwn w1 f' v' (rs ++ [r]) fun i => if i = rs.length then u else sv i := by
  have e : cellsR (fun i => if i = rs.length then u else sv i) 0 (rs ++ [r]) = cellsR sv 0 rs ++ r.c u := by
    rw [cellsR_snoc, Nat.zero_add, if_pos rfl]
    congr 1
    exact cellsR_ext _ _ _ _ fun i hi => by simp only [Nat.zero_add]; rw [if_neg (by omega)]
  refine ⟨by rw [e, List.length_append]; exact hrow, fun x hx => ?_, fun i x hx => ?_⟩
  · rcases List.mem_append.1 hx with hx | hx
    · exact h.ok x hx
    · rw [List.mem_singleton.1 hx]; exact hb
  · by_cases hi : i = rs.length
    · subst hi
      simp at hx
      subst hx
      simp only [if_true]
      exact (hr.beside h.row (by decide) hm).mono hf
    · have hlt : i < rs.length := by
        have := (List.getElem?_eq_some_iff.1 hx).1
        simp at this
        omega
      rw [List.getElem?_append_left hlt] at hx
      simp only [if_neg hi]
      exact ((h.next i x hx).beside h.row (by decide) hm).mono hf
/-- rows that can be read -/
structure RowsAt (w : World) (v : Value) (rs : List TRow) (sv : Nat → Value) : Prop where
  row : Reads w v rs.length (cellsR sv 0 rs)
  ok : rowsOk rs
  next : ∀ i r, rs[i]? = some r → Reads w (sv i) r.next.length (ints r.next)
theorem RowsOwn.at {w : World} {f : Nat → Prop} {v : Value} {rs : List TRow} {sv : Nat → Value} (h : RowsOwn w f v rs sv) : RowsAt w v rs sv := ⟨h.row.reads, h.ok, fun i r hr => (h.next i r hr).reads⟩
theorem RowsAt.keep {w w' : World} {v : Value} {rs : List TRow} {sv : Nat → Value} (h : RowsAt w v rs sv) (hm : Mod (fun _ => False) w w') : RowsAt w' v rs sv := ⟨h.row.keep0 hm, h.ok, fun i r hr => (h.next i r hr).keep0 hm⟩
end Go.Proofs.YtegjamjognpdkaaGreat
