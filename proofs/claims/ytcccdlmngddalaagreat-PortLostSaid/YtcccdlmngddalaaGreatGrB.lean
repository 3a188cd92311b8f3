/- Rows of addresses in memory; addr.Cmp, Good, Bytes, Read, group.key, slices.Clone at addresses: contracts. -/
import Derived.Test.YtcccdlmngddalaaGreatRowP
import Derived.Test.YtcccdlmngddalaaGreatRdE
import Derived.Test.YtcccdlmngddalaaGreatAdrW
import Derived.Test.YtcccdlmngddalaaGreatGrA
import Derived.Test.YtcccdlmngddalaaGreatApR
set_option linter.unusedVariables false
set_option linter.unusedSimpArgs false
namespace Go.Proofs.YtcccdlmngddalaaGreat
structure Ad where
  v : Bool
  b : List Int
  ok : adrOk b
theorem Ad.ext' {a b : Ad} (h1 : a.v = b.v) (h2 : a.b = b.b) : a = b := by
  cases a; cases b
  simp at h1 h2
  subst h1 h2
  rfl
instance : DecidableEq Ad := fun a b => if h : a.v = b.v ∧ a.b = b.b then isTrue (Ad.ext' h.1 h.2) else isFalse fun e => h ⟨by rw [e], by rw [e]⟩
instance : Inhabited Ad := ⟨⟨false, List.replicate 16 0, by simp, fun x hx => by rw [List.eq_of_mem_replicate hx]; omega⟩⟩
def Ad.good (a : Ad) : Bool := adrGood a.v a.b
def Ad.cmp (a b : Ad) : Int := cmpA a.v a.b b.v b.b
def bval : List Int → Nat
  | [] => 0
  | x :: l => x.toNat * 256 ^ l.length + bval l
theorem bval_lt : ∀ (l : List Int), (∀ x ∈ l, 0 ≤ x ∧ x < 256) → bval l < 256 ^ l.length
  | [], _ => by simp [bval]
  | x :: l, h => by
    have ih := bval_lt l fun y hy => h y (List.mem_cons_of_mem _ hy)
    have hx := h x List.mem_cons_self
    rw [bval, List.length_cons, Nat.pow_succ, Nat.mul_comm (256 ^ l.length) 256]
    have : x.toNat + 1 ≤ 256 := by omega
    have := Nat.mul_le_mul_right (256 ^ l.length) this
    rw [Nat.add_mul, Nat.one_mul] at this
    omega
theorem lead_lt {x y p a b : Nat} (h : x < y) (ha : a < p) : x * p + a < y * p + b := by
  have := Nat.mul_le_mul_right p (show x + 1 ≤ y from h)
  rw [Nat.add_mul, Nat.one_mul] at this
  omega
theorem cmpL_val : ∀ (l m : List Int), l.length = m.length → (∀ x ∈ l, 0 ≤ x ∧ x < 256) → (∀ x ∈ m, 0 ≤ x ∧ x < 256) → cmpL l m = cmpI (bval l) (bval m)
  | [], [], _, _, _ => rfl
  | [], _ :: _, h, _, _ => by simp at h
  | _ :: _, [], h, _, _ => by simp at h
  | x :: l, y :: m, h, hl, hm => by
    have hll : l.length = m.length := by simpa using h
    have ih := cmpL_val l m hll (fun z hz => hl z (List.mem_cons_of_mem _ hz)) (fun z hz => hm z (List.mem_cons_of_mem _ hz))
    have hx := hl x List.mem_cons_self
    have hy := hm y List.mem_cons_self
    have b1 := bval_lt l fun z hz => hl z (List.mem_cons_of_mem _ hz)
    have b2 := bval_lt m fun z hz => hm z (List.mem_cons_of_mem _ hz)
    rw [hll] at b1
    show (if x < y then -1 else if y < x then 1 else cmpL l m) = cmpI ((x.toNat * 256 ^ l.length + bval l : Nat) : Int) ((y.toNat * 256 ^ m.length + bval m : Nat) : Int)
    rw [hll]
    by_cases h1 : x < y
    · have := lead_lt (b := bval m) (show x.toNat < y.toNat by omega) b1
      rw [if_pos h1, cmpI, if_pos (by omega)]
    · by_cases h2 : y < x
      · have := lead_lt (b := bval l) (show y.toNat < x.toNat by omega) b2
        rw [if_neg h1, if_pos h2, cmpI, if_neg (by omega), if_pos (by omega)]
      · obtain rfl : x = y := by omega
        rw [if_neg h1, if_neg h1, ih]
        unfold cmpI
        by_cases h3 : bval l < bval m
        · rw [if_pos (by omega), if_pos (by omega)]
        · by_cases h4 : bval m < bval l
          · rw [if_neg (by omega), if_pos (by omega), if_neg (by omega), if_pos (by omega)]
          · rw [if_neg (by omega), if_neg (by omega), if_neg (by omega), if_neg (by omega)]
theorem bval_inj : ∀ (l m : List Int), l.length = m.length → (∀ x ∈ l, 0 ≤ x ∧ x < 256) → (∀ x ∈ m, 0 ≤ x ∧ x < 256) → bval l = bval m → l = m
  | [], [], _, _, _, _ => rfl
  | [], _ :: _, h, _, _, _ => by simp at h
  | _ :: _, [], h, _, _, _ => by simp at h
  | x :: l, y :: m, h, hl, hm, he => by
    have hll : l.length = m.length := by simpa using h
    have hx := hl x List.mem_cons_self
    have hy := hm y List.mem_cons_self
    have b1 := bval_lt l fun z hz => hl z (List.mem_cons_of_mem _ hz)
    have b2 := bval_lt m fun z hz => hm z (List.mem_cons_of_mem _ hz)
    rw [bval, bval, hll] at he
    rw [hll] at b1
    rcases Nat.lt_trichotomy x.toNat y.toNat with h1 | h1 | h1
    · have := lead_lt (b := bval m) h1 b1; omega
    · obtain rfl : x = y := by omega
      rw [bval_inj l m hll (fun z hz => hl z (List.mem_cons_of_mem _ hz)) (fun z hz => hm z (List.mem_cons_of_mem _ hz)) (by omega)]
    · have := lead_lt (b := bval l) h1 b2; omega
def Ad.rk (a : Ad) : Nat := cond a.v (256 ^ 4 + bval a.b) (bval (a.b.take 4))
theorem take4 {b : List Int} (h : adrOk b) : (b.take 4).length = 4 ∧ ∀ x ∈ b.take 4, 0 ≤ x ∧ x < 256 := ⟨by rw [List.length_take, h.1]; rfl, fun x hx => h.2 x (List.mem_of_mem_take hx)⟩
theorem rk4 {a : Ad} (h : a.v = false) : a.rk < 256 ^ 4 := by
  unfold Ad.rk
  rw [h]
  have h4 := take4 a.ok
  have := bval_lt _ h4.2
  rw [h4.1] at this
  exact this
theorem rk6 {a : Ad} (h : a.v = true) : 256 ^ 4 ≤ a.rk := by
  unfold Ad.rk
  rw [h]
  exact Nat.le_add_right _ _
theorem Ad.cmp_rk (a b : Ad) : a.cmp b = cmpI a.rk b.rk := by
  unfold Ad.cmp cmpA
  by_cases h : a.v = b.v
  · rw [if_pos h]
    cases ha : a.v with
    | true =>
      have hb : b.v = true := by rw [← h, ha]
      have := cmpL_val a.b b.b (by rw [a.ok.1, b.ok.1]) a.ok.2 b.ok.2
      unfold Ad.rk
      rw [ha, hb]
      show cmpL a.b b.b = cmpI ((256 ^ 4 + bval a.b : Nat) : Int) ((256 ^ 4 + bval b.b : Nat) : Int)
      rw [this]
      unfold cmpI
      by_cases h3 : bval a.b < bval b.b
      · rw [if_pos (by omega), if_pos (by omega)]
      · by_cases h4 : bval b.b < bval a.b
        · rw [if_neg (by omega), if_pos (by omega), if_neg (by omega), if_pos (by omega)]
        · rw [if_neg (by omega), if_neg (by omega), if_neg (by omega), if_neg (by omega)]
    | false =>
      have hb : b.v = false := by rw [← h, ha]
      have h1 := take4 a.ok
      have h2 := take4 b.ok
      have := cmpL_val (a.b.take 4) (b.b.take 4) (by rw [h1.1, h2.1]) h1.2 h2.2
      unfold Ad.rk
      rw [ha, hb]
      exact this
  · rw [if_neg h]
    cases ha : a.v with
    | true =>
      have hb : b.v = false := by cases hb : b.v with | false => rfl | true => exact absurd (by rw [ha, hb]) h
      have h1 := rk6 ha
      have h2 := rk4 hb
      rw [hb]
      unfold cmpI
      rw [if_neg (by omega), if_pos (by omega)]
      rfl
    | false =>
      have hb : b.v = true := by cases hb : b.v with | true => rfl | false => exact absurd (by rw [ha, hb]) h
      have h1 := rk4 ha
      have h2 := rk6 hb
      rw [hb]
      unfold cmpI
      rw [if_pos (by omega)]
      rfl
theorem Ad.rk_inj {a b : Ad} (ha : a.good = true) (hb : b.good = true) (h : a.rk = b.rk) : a = b := by
  have hv : a.v = b.v := by
    cases h1 : a.v <;> cases h2 : b.v <;> first | rfl | skip
    · have := rk4 h1; have := rk6 h2; omega
    · have := rk6 h1; have := rk4 h2; omega
  refine Ad.ext' hv ?_
  cases h1 : a.v with
  | true =>
    have h2 : b.v = true := by rw [← hv, h1]
    unfold Ad.rk at h
    rw [h1, h2] at h
    exact bval_inj a.b b.b (by rw [a.ok.1, b.ok.1]) a.ok.2 b.ok.2 (by simpa using h)
  | false =>
    have h2 : b.v = false := by rw [← hv, h1]
    unfold Ad.rk at h
    rw [h1, h2] at h
    have t1 := take4 a.ok
    have t2 := take4 b.ok
    have e := bval_inj (a.b.take 4) (b.b.take 4) (by rw [t1.1, t2.1]) t1.2 t2.2 (by simpa using h)
    unfold Ad.good adrGood at ha hb
    rw [h1] at ha
    rw [h2] at hb
    simp at ha hb
    rw [← List.take_append_drop 4 a.b, ← List.take_append_drop 4 b.b, e, ha, hb]
theorem Ad.cmp_lt (a b : Ad) : a.cmp b < 0 ↔ a.rk < b.rk := by
  rw [Ad.cmp_rk]; unfold cmpI
  by_cases h : (a.rk : Int) < b.rk
  · rw [if_pos h]; omega
  · rw [if_neg h]; by_cases h2 : (b.rk : Int) < a.rk
    · rw [if_pos h2]; omega
    · rw [if_neg h2]; omega
theorem Ad.cmp_gt (a b : Ad) : 0 < a.cmp b ↔ b.rk < a.rk := by
  rw [Ad.cmp_rk]; unfold cmpI
  by_cases h : (a.rk : Int) < b.rk
  · rw [if_pos h]; omega
  · rw [if_neg h]; by_cases h2 : (b.rk : Int) < a.rk
    · rw [if_pos h2]; omega
    · rw [if_neg h2]; omega
theorem Ad.cmp_eq (a b : Ad) : a.cmp b = 0 ↔ a.rk = b.rk := by
  have := Ad.cmp_lt a b; have := Ad.cmp_gt a b; omega
def Asc (l : List Ad) : Prop := l.Pairwise fun a b => a.rk < b.rk
def AS (l : List Ad) : Prop := Asc l ∧ ∀ a ∈ l, a.good = true
theorem AS.nil : AS [] := ⟨List.Pairwise.nil, fun a ha => (by cases ha)⟩
theorem AS.tail {a : Ad} {l : List Ad} (h : AS (a :: l)) : AS l := ⟨(List.pairwise_cons.1 h.1).2, fun x hx => h.2 x (List.mem_cons_of_mem _ hx)⟩
theorem AS.head {a : Ad} {l : List Ad} (h : AS (a :: l)) : ∀ x ∈ l, a.rk < x.rk := (List.pairwise_cons.1 h.1).1
theorem AS.notin {a : Ad} {l : List Ad} (h : AS (a :: l)) : a ∉ l := fun hx => by have := h.head a hx; omega
theorem AS.filter {l : List Ad} (h : AS l) (p : Ad → Bool) : AS (l.filter p) := ⟨List.Pairwise.filter _ h.1, fun a ha => h.2 a (List.mem_filter.1 ha).1⟩
theorem AS.sub {l m : List Ad} (h : AS l) (hs : m.Sublist l) : AS m := ⟨List.Pairwise.sublist hs h.1, fun a ha => h.2 a (hs.subset ha)⟩
theorem AS.cons {a : Ad} {l : List Ad} (h : AS l) (hg : a.good = true) (hl : ∀ x ∈ l, a.rk < x.rk) : AS (a :: l) :=
  ⟨List.pairwise_cons.2 ⟨hl, h.1⟩, fun x hx => by rcases List.mem_cons.1 hx with rfl | hx; exact hg; exact h.2 x hx⟩
theorem AS.ext : ∀ {l m : List Ad}, AS l → AS m → (∀ a, a ∈ l ↔ a ∈ m) → l = m
  | [], [], _, _, _ => rfl
  | [], b :: m, _, _, h => by have := (h b).2 List.mem_cons_self; cases this
  | a :: l, [], _, _, h => by have := (h a).1 List.mem_cons_self; cases this
  | a :: l, b :: m, hl, hm, h => by
    have e : a = b := by
      have h1 := (h a).1 List.mem_cons_self
      have h2 := (h b).2 List.mem_cons_self
      rcases List.mem_cons.1 h1 with h1 | h1
      · exact h1
      · rcases List.mem_cons.1 h2 with h2 | h2
        · exact h2.symm
        · have := hm.head a h1
          have := hl.head b h2
          omega
    subst e
    rw [AS.ext hl.tail hm.tail fun x => ?_]
    constructor
    · intro hx
      rcases List.mem_cons.1 ((h x).1 (List.mem_cons_of_mem _ hx)) with rfl | h'
      · exact absurd hx hl.notin
      · exact h'
    · intro hx
      rcases List.mem_cons.1 ((h x).2 (List.mem_cons_of_mem _ hx)) with rfl | h'
      · exact absurd hx hm.notin
      · exact h'
def ift (p : Bool) (a : Ad) : List Ad := if p then [a] else []
def mrg (f m s : Bool) : List Ad → List Ad → List Ad
  | [], bl => if s then bl else []
  | al, [] => if f then al else []
  | a :: al, b :: bl =>
    if a.cmp b < 0 then ift f a ++ mrg f m s al (b :: bl)
    else if 0 < a.cmp b then ift s b ++ mrg f m s (a :: al) bl
    else ift m a ++ mrg f m s al bl
  termination_by al bl => al.length + bl.length
theorem mem_ift {p : Bool} {a x : Ad} : x ∈ ift p a ↔ p = true ∧ x = a := by unfold ift; cases p <;> simp
theorem mrg_sub (f m s : Bool) : ∀ (n : Nat) (al bl : List Ad), al.length + bl.length ≤ n → ∀ x ∈ mrg f m s al bl, x ∈ al ∨ x ∈ bl
  | n, [], bl, _, x, hx => by
    rw [mrg] at hx
    cases s <;> simp at hx
    exact .inr hx
  | n, a :: al, [], _, x, hx => by
    rw [mrg] at hx
    · cases f <;> simp at hx
      exact .inl (by simpa using hx)
    · simp
  | 0, a :: al, b :: bl, h, x, hx => by simp at h
  | n + 1, a :: al, b :: bl, h, x, hx => by
    simp at h
    rw [mrg] at hx
    split at hx
    · rcases List.mem_append.1 hx with h1 | h1
      · exact .inl ((mem_ift.1 h1).2 ▸ List.mem_cons_self)
      · rcases mrg_sub f m s n al (b :: bl) (by simp; omega) x h1 with h2 | h2
        · exact .inl (List.mem_cons_of_mem _ h2)
        · exact .inr h2
    · split at hx
      · rcases List.mem_append.1 hx with h1 | h1
        · exact .inr ((mem_ift.1 h1).2 ▸ List.mem_cons_self)
        · rcases mrg_sub f m s n (a :: al) bl (by simp; omega) x h1 with h2 | h2
          · exact .inl h2
          · exact .inr (List.mem_cons_of_mem _ h2)
      · rcases List.mem_append.1 hx with h1 | h1
        · exact .inl ((mem_ift.1 h1).2 ▸ List.mem_cons_self)
        · rcases mrg_sub f m s n al bl (by omega) x h1 with h2 | h2
          · exact .inl (List.mem_cons_of_mem _ h2)
          · exact .inr (List.mem_cons_of_mem _ h2)
theorem AS.ift {p : Bool} {a : Ad} {l : List Ad} (h : AS l) (hg : a.good = true) (hl : ∀ x ∈ l, a.rk < x.rk) : AS (ift p a ++ l) := by
  unfold Go.Proofs.YtcccdlmngddalaaGreat.ift
  cases p
  · exact h
  · exact h.cons hg hl
theorem mrg_as (f m s : Bool) : ∀ (n : Nat) (al bl : List Ad), al.length + bl.length ≤ n → AS al → AS bl → AS (mrg f m s al bl)
  | n, [], bl, _, ha, hb => by
    rw [mrg]
    cases s
    · exact AS.nil
    · exact hb
  | n, a :: al, [], _, ha, hb => by
    rw [mrg]
    · cases f
      · exact AS.nil
      · exact ha
    · simp
  | 0, a :: al, b :: bl, h, _, _ => by simp at h
  | n + 1, a :: al, b :: bl, h, ha, hb => by
    simp at h
    rw [mrg]
    split
    · rename_i h1
      rw [Ad.cmp_lt] at h1
      refine (mrg_as f m s n al (b :: bl) (by simp; omega) ha.tail hb).ift (ha.2 a List.mem_cons_self) fun x hx => ?_
      rcases mrg_sub f m s n al (b :: bl) (by simp; omega) x hx with h2 | h2
      · exact ha.head x h2
      · rcases List.mem_cons.1 h2 with rfl | h2
        · exact h1
        · have := hb.head x h2; omega
    · split
      · rename_i h1
        rw [Ad.cmp_gt] at h1
        refine (mrg_as f m s n (a :: al) bl (by simp; omega) ha hb.tail).ift (hb.2 b List.mem_cons_self) fun x hx => ?_
        rcases mrg_sub f m s n (a :: al) bl (by simp; omega) x hx with h2 | h2
        · rcases List.mem_cons.1 h2 with rfl | h2
          · exact h1
          · have := ha.head x h2; omega
        · exact hb.head x h2
      · rename_i h1 h2
        rw [Ad.cmp_lt] at h1
        rw [Ad.cmp_gt] at h2
        refine (mrg_as f m s n al bl (by omega) ha.tail hb.tail).ift (ha.2 a List.mem_cons_self) fun x hx => ?_
        rcases mrg_sub f m s n al bl (by omega) x hx with h3 | h3
        · exact ha.head x h3
        · have := hb.head x h3; omega
theorem mem_mrg (f m s : Bool) (x : Ad) : ∀ (n : Nat) (al bl : List Ad), al.length + bl.length ≤ n → AS al → AS bl →
    (x ∈ mrg f m s al bl ↔ (x ∈ al ∧ x ∉ bl ∧ f = true) ∨ (x ∈ al ∧ x ∈ bl ∧ m = true) ∨ (x ∉ al ∧ x ∈ bl ∧ s = true))
  | n, [], bl, _, ha, hb => by
    rw [mrg]
    cases s <;> simp
  | n, a :: al, [], _, ha, hb => by
    rw [mrg]
    · cases f <;> simp
    · simp
  | 0, a :: al, b :: bl, h, _, _ => by simp at h
  | n + 1, a :: al, b :: bl, h, ha, hb => by
    simp at h
    rw [mrg]
    split
    · rename_i h1
      rw [Ad.cmp_lt] at h1
      rw [List.mem_append, mem_ift, mem_mrg f m s x n al (b :: bl) (by simp; omega) ha.tail hb]
      have hna := ha.notin
      have hab : a ∉ b :: bl := fun hx => by
        rcases List.mem_cons.1 hx with rfl | hx
        · omega
        · have := hb.head a hx; omega
      by_cases hxa : x = a
      · subst hxa
        simp [hab, hna]
      · simp [hxa]
    · split
      · rename_i h1
        rw [Ad.cmp_gt] at h1
        rw [List.mem_append, mem_ift, mem_mrg f m s x n (a :: al) bl (by simp; omega) ha hb.tail]
        have hnb := hb.notin
        have hba : b ∉ a :: al := fun hx => by
          rcases List.mem_cons.1 hx with rfl | hx
          · omega
          · have := ha.head b hx; omega
        by_cases hxb : x = b
        · subst hxb
          simp [hba, hnb]
        · simp [hxb]
      · rename_i h1 h2
        rw [Ad.cmp_lt] at h1
        rw [Ad.cmp_gt] at h2
        obtain rfl : a = b := Ad.rk_inj (ha.2 a List.mem_cons_self) (hb.2 b List.mem_cons_self) (by omega)
        rw [List.mem_append, mem_ift, mem_mrg f m s x n al bl (by omega) ha.tail hb.tail]
        have hna := ha.notin
        have hnb := hb.notin
        by_cases hxa : x = a
        · subst hxa
          simp [hna, hnb]
        · simp [hxa]
def orA : List Ad → List Ad → List Ad := mrg true true true
def andA : List Ad → List Ad → List Ad := mrg false true false
def minA : List Ad → List Ad → List Ad := mrg true false false
section
variable {a b : List Ad} (ha : AS a) (hb : AS b)
include ha hb
theorem orA_as : AS (orA a b) := mrg_as _ _ _ _ a b (Nat.le_refl _) ha hb
theorem andA_as : AS (andA a b) := mrg_as _ _ _ _ a b (Nat.le_refl _) ha hb
theorem minA_as : AS (minA a b) := mrg_as _ _ _ _ a b (Nat.le_refl _) ha hb
theorem mem_orA {x : Ad} : x ∈ orA a b ↔ x ∈ a ∨ x ∈ b := by
  unfold orA
  rw [mem_mrg _ _ _ x _ a b (Nat.le_refl _) ha hb]
  by_cases h1 : x ∈ a <;> by_cases h2 : x ∈ b <;> simp [h1, h2]
theorem mem_andA {x : Ad} : x ∈ andA a b ↔ x ∈ a ∧ x ∈ b := by
  unfold andA
  rw [mem_mrg _ _ _ x _ a b (Nat.le_refl _) ha hb]
  by_cases h1 : x ∈ a <;> by_cases h2 : x ∈ b <;> simp [h1, h2]
theorem mem_minA {x : Ad} : x ∈ minA a b ↔ x ∈ a ∧ x ∉ b := by
  unfold minA
  rw [mem_mrg _ _ _ x _ a b (Nat.le_refl _) ha hb]
  by_cases h1 : x ∈ a <;> by_cases h2 : x ∈ b <;> simp [h1, h2]
end
theorem ift_len (p : Bool) (a : Ad) : (ift p a).length ≤ 1 ∧ (p = false → (ift p a).length = 0) := by unfold ift; cases p <;> simp
theorem mrg_len (f m s : Bool) : ∀ (n : Nat) (al bl : List Ad), al.length + bl.length ≤ n →
    (mrg f m s al bl).length ≤ al.length + bl.length ∧ (s = false → (mrg f m s al bl).length ≤ al.length) ∧ (s = false → f = false → (mrg f m s al bl).length ≤ bl.length)
  | n, [], bl, _ => by
    rw [mrg]
    cases s <;> simp
  | n, a :: al, [], _ => by
    rw [mrg]
    · cases f <;> simp
    · simp
  | 0, a :: al, b :: bl, h => by simp at h
  | n + 1, a :: al, b :: bl, h => by
    simp at h
    rw [mrg]
    split
    · have ih := mrg_len f m s n al (b :: bl) (by simp; omega)
      have h1 := ift_len f a
      refine ⟨?_, fun hs => ?_, fun hs hf => ?_⟩
      · have := ih.1; simp at this ⊢; omega
      · have := ih.2.1 hs; simp at this ⊢; omega
      · have h9'' := ih.2.2 hs hf; have h9 := h1.2 hf; simp at h9'' ⊢; omega
    · split
      · have ih := mrg_len f m s n (a :: al) bl (by simp; omega)
        have h1 := ift_len s b
        refine ⟨?_, fun hs => ?_, fun hs hf => ?_⟩
        · have := ih.1; simp at this ⊢; omega
        · have h8 := ih.2.1 hs; have h9 := h1.2 hs; simp at h8 ⊢; omega
        · have := ih.2.2 hs hf; have := h1.2 hs; simp at this ⊢; omega
      · have ih := mrg_len f m s n al bl (by omega)
        have h1 := ift_len m a
        refine ⟨?_, fun hs => ?_, fun hs hf => ?_⟩
        · have := ih.1; simp at this ⊢; omega
        · have := ih.2.1 hs; simp at this ⊢; omega
        · have := ih.2.2 hs hf; simp at this ⊢; omega
theorem orA_len (a b : List Ad) : (orA a b).length ≤ a.length + b.length := (mrg_len _ _ _ _ a b (Nat.le_refl _)).1
theorem andA_len (a b : List Ad) : (andA a b).length ≤ a.length ∧ (andA a b).length ≤ b.length := ⟨(mrg_len _ _ _ _ a b (Nat.le_refl _)).2.1 rfl, (mrg_len _ _ _ _ a b (Nat.le_refl _)).2.2 rfl rfl⟩
theorem minA_len (a b : List Ad) : (minA a b).length ≤ a.length := (mrg_len _ _ _ _ a b (Nat.le_refl _)).2.1 rfl
theorem orA_nil' (a : List Ad) : orA a [] = a := by
  unfold orA
  cases a with
  | nil => rw [mrg]; rfl
  | cons x a => rw [mrg]; rfl; simp
theorem and_min_len : ∀ (n : Nat) (a b : List Ad), a.length + b.length ≤ n → (andA a b).length + (minA b a).length ≤ b.length
  | n, [], bl, _ => by
    unfold andA minA
    rw [mrg]
    cases bl with
    | nil => rw [mrg]; simp
    | cons x bl => rw [mrg]; simp; simp
  | n, a :: al, [], _ => by
    unfold andA minA
    rw [mrg, mrg]
    · simp
    · simp
  | 0, a :: al, b :: bl, h => by simp at h
  | n + 1, a :: al, b :: bl, h => by
    simp at h
    have e : b.cmp a = - a.cmp b := by rw [Ad.cmp_rk, Ad.cmp_rk]; unfold cmpI; split <;> split <;> first | omega | (split <;> omega) | skip
    have i1 := and_min_len n al (b :: bl) (by simp; omega)
    have i2 := and_min_len n (a :: al) bl (by simp; omega)
    have i3 := and_min_len n al bl (by omega)
    unfold andA minA at *
    rw [mrg, mrg, e]
    by_cases h1 : a.cmp b < 0
    · rw [if_pos h1, if_neg (by omega), if_pos (by omega)]
      simpa [ift] using i1
    · by_cases h2 : 0 < a.cmp b
      · rw [if_neg h1, if_pos h2, if_pos (by omega)]
        simp [ift] at i2 ⊢; omega
      · rw [if_neg h1, if_neg h2, if_neg (by omega), if_neg (by omega)]
        simp [ift] at i3 ⊢; omega
def insA (a : Ad) : List Ad → List Ad
  | [] => [a]
  | b :: l => if a.rk < b.rk then a :: b :: l else if b.rk < a.rk then b :: insA a l else b :: l
def ofA (l : List Ad) : List Ad := (l.filter Ad.good).foldr insA []
theorem mem_insA {a x : Ad} (hg : a.good = true) : ∀ {l : List Ad}, AS l → (x ∈ insA a l ↔ x = a ∨ x ∈ l)
  | [], _ => by simp [insA]
  | b :: l, h => by
    unfold insA
    split
    · simp
    · split
      · rw [List.mem_cons, mem_insA hg h.tail, List.mem_cons]
        constructor
        · rintro (h1 | h1 | h1)
          · exact .inr (.inl h1)
          · exact .inl h1
          · exact .inr (.inr h1)
        · rintro (h1 | h1 | h1)
          · exact .inr (.inl h1)
          · exact .inl h1
          · exact .inr (.inr h1)
      · obtain rfl : a = b := Ad.rk_inj hg (h.2 b List.mem_cons_self) (by omega)
        simp
theorem insA_as {a : Ad} (hg : a.good = true) : ∀ {l : List Ad}, AS l → AS (insA a l)
  | [], h => AS.nil.cons hg fun x hx => (by cases hx)
  | b :: l, h => by
    unfold insA
    split
    · rename_i h1
      refine h.cons hg fun x hx => ?_
      rcases List.mem_cons.1 hx with rfl | hx
      · exact h1
      · have := h.head x hx; omega
    · split
      · rename_i h1 h2
        refine (insA_as hg h.tail).cons (h.2 b List.mem_cons_self) fun x hx => ?_
        rcases (mem_insA hg h.tail).1 hx with rfl | hx
        · exact h2
        · exact h.head x hx
      · exact h
theorem foldA : ∀ (l : List Ad), (∀ a ∈ l, a.good = true) → AS (l.foldr insA []) ∧ ∀ x, x ∈ l.foldr insA [] ↔ x ∈ l
  | [], _ => ⟨AS.nil, fun x => by simp⟩
  | a :: l, h => by
    have ih := foldA l fun x hx => h x (List.mem_cons_of_mem _ hx)
    refine ⟨insA_as (h a List.mem_cons_self) ih.1, fun x => ?_⟩
    rw [List.foldr_cons, mem_insA (h a List.mem_cons_self) ih.1, ih.2 x, List.mem_cons]
theorem ofA_as (l : List Ad) : AS (ofA l) := (foldA _ fun a ha => (List.mem_filter.1 ha).2).1
theorem mem_ofA {l : List Ad} {x : Ad} : x ∈ ofA l ↔ x ∈ l ∧ x.good = true := by
  unfold ofA
  rw [(foldA _ fun a ha => (List.mem_filter.1 ha).2).2 x, List.mem_filter]
theorem insA_len (a : Ad) : ∀ l : List Ad, (insA a l).length ≤ l.length + 1
  | [] => by simp [insA]
  | b :: l => by
    have := insA_len a l
    unfold insA
    split
    · simp
    · split
      · simp; omega
      · simp
theorem ofA_len (l : List Ad) : (ofA l).length ≤ l.length := by
  have : ∀ l : List Ad, (l.foldr insA []).length ≤ l.length := fun l => by
    induction l with
    | nil => simp
    | cons a l ih => have := insA_len a (l.foldr insA []); simp; omega
  exact Nat.le_trans (this _) (List.length_filter_le _ _)
def Ad.kb (a : Ad) : List Int := if a.v then a.b else a.b.take 4
theorem kb_inj {a b : Ad} (ha : a.good = true) (hb : b.good = true) (h : a.kb = b.kb) : a = b := by
  have l1 : a.kb.length = if a.v then 16 else 4 := by unfold Ad.kb; split; exact a.ok.1; exact (take4 a.ok).1
  have l2 : b.kb.length = if b.v then 16 else 4 := by unfold Ad.kb; split; exact b.ok.1; exact (take4 b.ok).1
  have hv : a.v = b.v := by
    rw [h, l2] at l1
    cases h1 : a.v <;> cases h2 : b.v <;> simp [h1, h2] at l1 ⊢
  refine Ad.rk_inj ha hb ?_
  unfold Ad.kb at h
  unfold Ad.rk
  cases h1 : a.v with
  | true =>
    have h2 : b.v = true := by rw [← hv, h1]
    rw [h1, h2] at h
    simp at h
    rw [h2, h]
  | false =>
    have h2 : b.v = false := by rw [← hv, h1]
    rw [h1, h2] at h
    simp at h
    rw [h2]
    show bval (a.b.take 4) = bval (b.b.take 4)
    rw [h]
end Go.Proofs.YtcccdlmngddalaaGreat
namespace Go.Proofs.YtcccdlmngddalaaGreat
open Go.RowKit
theorem byt_get (s : ByteArray) (j : Nat) (h : j < s.size) : byt s j = ((s[j].toNat : Nat) : Int) := by
  have h' : j < s.data.toList.length := by simpa using h
  unfold byt
  rw [List.getElem?_eq_getElem h']
  simp
  rfl
theorem boolSz : (Tryz.prog.info? 4).map (·.size) = some 1 := by kernel_rfl
theorem bytes_at (s : ByteArray) (n : Nat) (h : s.size = n) (hn : n = 4 ∨ n = 16) (v : Bool) : splice ((adrC false z16).set 0 (.bool v)) 1 (s.data.toList.map fun x => .int .u8 (x.toNat : Int)) = adrC v (adrAt s 0 n) := by
  have h2 : (s.data.toList.map fun x => Value.int .u8 (x.toNat : Int)) = ((List.range n).map fun k => Value.int .u8 (byt s k)) := by
    apply List.ext_getElem
    · simp [h]
    · intro i h3 h4
      simp at h3 h4
      simp only [List.getElem_map, List.getElem_range]
      rw [byt_get s i (by omega)]
      rfl
  rw [h2]
  rcases hn with rfl | rfl
  · cases v <;> rfl
  · cases v <;> rfl
set_option maxRecDepth 100000 in
theorem addrRead_yes (s : ByteArray) (n : Nat) (hn : n = 4 ∨ n = 16) (h : s.size = n) (w : World) : Calls Tryz.prog 83 #[.string s] w fun e w' => e = .returned (.tuple #[.agg (adrC (decide (n = 16)) (adrAt s 0 n)).toArray, .int .i64 0]) ∧ Mod (fun _ => False) w w' := by
  have HS := Lib.hid adrSz
  have HB := Lib.hid boolSz
  have HU := Lib.hid u8Sz
  obtain ⟨bs, hbs⟩ : ∃ bs, bs = s.data.toList.map fun x => Value.int .u8 (x.toNat : Int) := ⟨_, rfl⟩
  have HBS := Lib.hid hbs
  go_enter Tryz.func83, Tryz.ntmps83
  iterate 21 go_step
  refine wp_new2 (t := 36) (t' := 36) (cs := adrC false z16) (cs' := adrC false z16) fun W HR HL HM => ?_
  rcases hn with rfl | rfl
  · have HS2 : Hid ((Tryz.prog.info? 36).map (·.size) = some (adrC false (adrAt s 0 4)).length) := Lib.hid (by rw [adrC_len, adrAt_len]; exact adrSz)
    have HF2 : Hid (0 + (adrC false (adrAt s 0 4)).length ≤ (adrC false z16).length) := Lib.hid (by rw [adrC_len, adrAt_len]; decide)
    have HX := Lib.hid (bytes_at s 4 h (.inl rfl) false)
    rw [← hbs] at HX
    clear hbs
    have HF : Hid (∀ v, 1 + s.size ≤ ((adrC false z16).set 0 v).length) := Lib.hid fun v => by rw [List.length_set, show (adrC false z16).length = 17 from rfl]; omega
    go_wp2_with (first | (refine wpList_load_blk rfl _ _ rfl (w.heap.size + 1) 0 rfl 36 (adrC false (adrAt s 0 4)) (adrC false (adrAt s 0 4)) _ HL2.out (List.take_of_length_le (Nat.le_refl _)) Tryz.underlying36 rfl HS2.out ?_) | (refine wpList_store_blk1 rfl _ _ _ rfl (w.heap.size + 1) 0 36 (adrC false z16) (.bool false) rfl rfl HL.out (by decide) HB.out rfl ?_; intro W1 HL1 HM1) | (refine wpList_store_blk rfl _ _ _ rfl w.heap.size 0 36 (adrC false z16) (adrC false (adrAt s 0 4)) rfl rfl HR2.out HF2.out HS2.out (adrC_one _ _) ?_; intro W3 HR3 HM3) | (refine wpList_copy_text rfl _ _ _ _ rfl 5 Tryz.underlying159 HU.out (w.heap.size + 1) 1 16 16 s rfl rfl 36 ((adrC false z16).set 0 (.bool false)) bs HL1.out HBS.out (by omega) (HF.out _) ?_; intro W2 HL2 HM2; rw [HX.out] at HL2; have HR2 := Lib.hid ((HR.out.keep HM1.out (by omega)).keep HM2.out (by omega))))
    have HR4 := Lib.hid (splice_all HR3.out (by rw [adrC_len, adrAt_len]; rfl))
    refine bodyPost_ret (results_blk_tmp rfl _ w.heap.size 36 (adrC false (adrAt s 0 4)) rfl rfl HR4.out Tryz.underlying36 rfl HS2.out) rfl ?_
    exact ⟨rfl, ((HM.out.trans HM1.out fun x hx => .inr (by omega)).trans HM2.out fun x hx => .inr (by omega)).trans HM3.out fun x hx => .inr (by omega)⟩
  · have HS2 : Hid ((Tryz.prog.info? 36).map (·.size) = some (adrC true (adrAt s 0 16)).length) := Lib.hid (by rw [adrC_len, adrAt_len]; exact adrSz)
    have HF2 : Hid (0 + (adrC true (adrAt s 0 16)).length ≤ (adrC false z16).length) := Lib.hid (by rw [adrC_len, adrAt_len]; decide)
    have HX := Lib.hid (bytes_at s 16 h (.inr rfl) true)
    rw [← hbs] at HX
    clear hbs
    have HF : Hid (∀ v, 1 + s.size ≤ ((adrC false z16).set 0 v).length) := Lib.hid fun v => by rw [List.length_set, show (adrC false z16).length = 17 from rfl]; omega
    go_wp2_with (first | (refine wpList_load_blk rfl _ _ rfl (w.heap.size + 1) 0 rfl 36 (adrC true (adrAt s 0 16)) (adrC true (adrAt s 0 16)) _ HL2.out (List.take_of_length_le (Nat.le_refl _)) Tryz.underlying36 rfl HS2.out ?_) | (refine wpList_store_blk1 rfl _ _ _ rfl (w.heap.size + 1) 0 36 (adrC false z16) (.bool true) rfl rfl HL.out (by decide) HB.out rfl ?_; intro W1 HL1 HM1) | (refine wpList_store_blk rfl _ _ _ rfl w.heap.size 0 36 (adrC false z16) (adrC true (adrAt s 0 16)) rfl rfl HR2.out HF2.out HS2.out (adrC_one _ _) ?_; intro W3 HR3 HM3) | (refine wpList_copy_text rfl _ _ _ _ rfl 5 Tryz.underlying159 HU.out (w.heap.size + 1) 1 16 16 s rfl rfl 36 ((adrC false z16).set 0 (.bool true)) bs HL1.out HBS.out (by omega) (HF.out _) ?_; intro W2 HL2 HM2; rw [HX.out] at HL2; have HR2 := Lib.hid ((HR.out.keep HM1.out (by omega)).keep HM2.out (by omega))))
    have HR4 := Lib.hid (splice_all HR3.out (by rw [adrC_len, adrAt_len]; rfl))
    refine bodyPost_ret (results_blk_tmp rfl _ w.heap.size 36 (adrC true (adrAt s 0 16)) rfl rfl HR4.out Tryz.underlying36 rfl HS2.out) rfl ?_
    exact ⟨rfl, ((HM.out.trans HM1.out fun x hx => .inr (by omega)).trans HM2.out fun x hx => .inr (by omega)).trans HM3.out fun x hx => .inr (by omega)⟩
def Ad.key (a : Ad) : ByteArray := strOfNums a.kb
theorem byt_nums (xs : List Int) (h : ∀ x ∈ xs, 0 ≤ x ∧ x < 256) (i : Nat) (hi : i < xs.length) : byt (strOfNums xs) i = xs[i] := by
  unfold byt
  rw [strOfNums_data, List.getElem?_map, List.getElem?_eq_getElem hi]
  have := h xs[i] (List.getElem_mem hi)
  simp
  omega
theorem nums_inj : ∀ (xs ys : List Int), (∀ x ∈ xs, 0 ≤ x ∧ x < 256) → (∀ x ∈ ys, 0 ≤ x ∧ x < 256) → strOfNums xs = strOfNums ys → xs = ys := fun xs ys hx hy h => by
  have hl : xs.length = ys.length := by rw [← strOfNums_size xs, ← strOfNums_size ys, h]
  refine List.ext_getElem hl fun i h1 h2 => ?_
  rw [← byt_nums xs hx i h1, ← byt_nums ys hy i h2, h]
theorem Ad.kb_ok (a : Ad) : ∀ x ∈ a.kb, 0 ≤ x ∧ x < 256 := by
  unfold Ad.kb
  split
  · exact a.ok.2
  · exact (take4 a.ok).2
theorem Ad.key_inj {a b : Ad} (ha : a.good = true) (hb : b.good = true) (h : a.key = b.key) : a = b := kb_inj ha hb (nums_inj _ _ a.kb_ok b.kb_ok h)
theorem adrAt_get (s : ByteArray) (q wide i : Nat) (h : i < (adrAt s q wide).length) : (adrAt s q wide)[i] = if i < wide then byt s (q + i) else 0 := by simp [adrAt]
theorem Ad.read_eq {a : Ad} (h : a.good = true) : (a.key.size = 4 ∨ a.key.size = 16) ∧ decide (a.key.size = 16) = a.v ∧ adrAt a.key 0 a.key.size = a.b := by
  have hs : a.key.size = a.kb.length := strOfNums_size _
  cases hv : a.v with
  | true =>
    have hk : a.kb = a.b := by unfold Ad.kb; rw [hv]; rfl
    rw [hk, a.ok.1] at hs
    rw [hs]
    refine ⟨.inr rfl, rfl, List.ext_getElem (by rw [adrAt_len, a.ok.1]) fun i h1 h2 => ?_⟩
    have h5 := h1
    rw [adrAt_len] at h5
    rw [adrAt_get, if_pos h5, Nat.zero_add]
    unfold Ad.key
    rw [byt_nums _ a.kb_ok i (by rw [hk]; exact h2)]
    simp [hk]
  | false =>
    have hk : a.kb = a.b.take 4 := by unfold Ad.kb; rw [hv]; rfl
    rw [hk, (take4 a.ok).1] at hs
    rw [hs]
    refine ⟨.inl rfl, rfl, List.ext_getElem (by rw [adrAt_len, a.ok.1]) fun i h1 h2 => ?_⟩
    rw [adrAt_get]
    have h5 := h1
    rw [adrAt_len] at h5
    by_cases h3 : i < 4
    · rw [if_pos h3, Nat.zero_add]
      unfold Ad.key
      rw [byt_nums _ a.kb_ok i (by rw [hk, (take4 a.ok).1]; exact h3)]
      simp [hk]
    · rw [if_neg h3]
      unfold Ad.good adrGood at h
      rw [hv, Bool.false_or, decide_eq_true_eq] at h
      have h4 : (a.b.drop 4)[i - 4]? = some 0 := by rw [h, List.getElem?_replicate, if_pos (by omega)]
      rw [List.getElem?_drop, show 4 + (i - 4) = i by omega, List.getElem?_eq_getElem h2] at h4
      simpa using h4.symm
end Go.Proofs.YtcccdlmngddalaaGreat
namespace Go.Proofs.YtcccdlmngddalaaGreat
open Go.RowKit Go.Sort
def Ad.c (a : Ad) : List Value := adrC a.v a.b
theorem Ad.c_len (a : Ad) : a.c.length = 17 := by unfold Ad.c; rw [adrC_len, a.ok.1]
theorem Ad.c_one (a : Ad) : ∀ u ∈ a.c, u.oneCell' = true := adrC_one _ _
theorem Ad.c_sz (a : Ad) : (Tryz.prog.info? 36).map (·.size) = some a.c.length := by rw [a.c_len]; exact adrSz
def cellsA (l : List Ad) : List Value := l.flatMap Ad.c
theorem cellsA_cons (a : Ad) (l : List Ad) : cellsA (a :: l) = a.c ++ cellsA l := by simp [cellsA]
theorem cellsA_app (l m : List Ad) : cellsA (l ++ m) = cellsA l ++ cellsA m := by simp [cellsA]
theorem cellsA_len : ∀ l : List Ad, (cellsA l).length = l.length * 17
  | [] => rfl
  | a :: l => by rw [cellsA_cons, List.length_append, a.c_len, cellsA_len l, List.length_cons]; omega
theorem cellsA_one : ∀ (l : List Ad), ∀ u ∈ cellsA l, u.oneCell' = true
  | [], u, h => by cases h
  | a :: l, u, h => by
    rw [cellsA_cons] at h
    rcases List.mem_append.1 h with h | h
    · exact a.c_one u h
    · exact cellsA_one l u h
theorem cellsA_drop (l : List Ad) (k : Nat) : (cellsA l).drop (k * 17) = cellsA (l.drop k) := by
  by_cases h : k ≤ l.length
  · conv => lhs; rw [← List.take_append_drop k l, cellsA_app]
    exact List.drop_left' (by rw [cellsA_len, List.length_take]; congr 1; omega)
  · rw [List.drop_of_length_le (by rw [cellsA_len]; omega), List.drop_of_length_le (by omega)]; rfl
theorem cellsA_take (l : List Ad) (k : Nat) : (cellsA l).take (k * 17) = cellsA (l.take k) := by
  by_cases h : k ≤ l.length
  · conv => lhs; rw [← List.take_append_drop k l, cellsA_app]
    exact List.take_left' (by rw [cellsA_len, List.length_take]; congr 1; omega)
  · rw [List.take_of_length_le (by rw [cellsA_len]; omega), List.take_of_length_le (by omega)]
theorem cellsA_get {l : List Ad} {i : Nat} {a : Ad} (h : l[i]? = some a) : ((cellsA l).drop (i * 17)).take 17 = a.c := by
  rw [cellsA_drop]
  obtain ⟨hi, rfl⟩ := List.getElem?_eq_some_iff.1 h
  rw [List.drop_eq_getElem_cons hi, cellsA_cons]
  exact List.take_left' (Ad.c_len _)
theorem cellsA_set (l : List Ad) (i : Nat) (a : Ad) (hi : i < l.length) : splice (cellsA l) (i * 17) a.c = cellsA (l.set i a) := by
  unfold splice
  rw [cellsA_take, show i * 17 + a.c.length = (i + 1) * 17 by rw [a.c_len]; omega, cellsA_drop, List.set_eq_take_append_cons_drop, if_pos hi, cellsA_app, cellsA_cons]
theorem Mod.no {F : Nat → Prop} {a b : World} (h : Mod (fun _ => False) a b) : Mod F a b := h.mono fun _ f => f.elim
def RdA (w : World) (v : Value) (l : List Ad) : Prop := Reads w v l.length (cellsA l)
def RowA (w : World) (f : Nat → Prop) (v : Value) (l : List Ad) : Prop := Row w f 36 17 v l.length (cellsA l)
theorem RowA.rd {w : World} {f : Nat → Prop} {v : Value} {l : List Ad} (h : RowA w f v l) : RdA w v l := Row.reads h
theorem RdA.keep0 {w w' : World} {v : Value} {l : List Ad} (h : RdA w v l) (hm : Mod (fun _ => False) w w') : RdA w' v l := Reads.keep0 h hm
theorem RowA.keep0 {w w' : World} {f : Nat → Prop} {v : Value} {l : List Ad} (h : RowA w f v l) (hm : Mod (fun _ => False) w w') : RowA w' f v l := Row.keep h hm fun _ _ h => h
theorem RowA.mono {w : World} {f f' : Nat → Prop} {v : Value} {l : List Ad} (h : RowA w f v l) (hf : ∀ k, f k → f' k) : RowA w f' v l := Row.mono h hf
theorem RowA.nil (w : World) (f : Nat → Prop) : RowA w f (.slice none 0 0) [] := Row.nil w f _ _
def NotA (w : World) (F : Nat → Prop) : Prop := ∀ k, F k → ∀ cur z, w.heap[k]? ≠ some (.cells cur 36 z)
theorem RowA.keepT {w w' : World} {F f : Nat → Prop} {v : Value} {l : List Ad} (h : RowA w f v l) (hm : Mod F w w') (hF : NotA w F) : RowA w' f v l := by
  obtain ⟨⟨hl, h1⟩, h2⟩ := h
  refine ⟨⟨hl, ?_⟩, h2⟩
  rcases h1 with h1 | ⟨g, cap, cur, rfl, hb, hg, r⟩
  · exact .inl h1
  · exact .inr ⟨g, cap, cur, rfl, hb, hm.keep hg (fun hf => hF g hf _ _ hg), r⟩
theorem Blk.notA {w : World} {g : Nat} {t : TypeId} {cs : List Value} (h : Blk w g t cs) (ht : t ≠ 36) : NotA w (fun k => k = g) := fun k hk cur z e => by
  subst hk
  unfold Blk at h
  rw [h] at e
  injection e with e
  injection e with _ e2
  exact ht e2
theorem RdA.at {w : World} {v : Value} {l : List Ad} (h : RdA w v l) {j : Nat} (hj : j < l.length) : ∃ g o cap, v = .slice (some ⟨g, o, none⟩) l.length cap ∧ l.length ≤ cap ∧ cap ≤ maxLen ∧ ∀ i a, l[i]? = some a → w.rangeAt g (o + i * 17) a.c := by
  obtain ⟨ad, cap, rfl, h1, h2, h3⟩ := h
  obtain ⟨g, o, rfl, h4⟩ := h3 (by omega)
  refine ⟨g, o, cap, rfl, h1, h2, fun i a ha k u hu => ?_⟩
  rw [← cellsA_get ha, List.getElem?_take] at hu
  split at hu
  · rw [List.getElem?_drop] at hu
    have := h4 _ u hu
    rwa [← Nat.add_assoc] at this
  · cases hu
theorem Tryz.elA : Elem Tryz.prog 24 36 (.agg (adrC false z16).toArray) 17 17 := .mk' Tryz.underlying24 (by kernel_rfl) rfl
theorem Cmp_ad (a b : Ad) (w : World) : Calls Tryz.prog 81 #[.agg a.c.toArray, .agg b.c.toArray] w fun e w' => e = .returned (.int .i64 (a.cmp b)) ∧ Mod (fun _ => False) w w' := Cmp_any a.v b.v a.b b.b a.ok b.ok w
theorem Cmp_adg (a b : Ad) (w : World) : Calls Tryz.prog 81 #[.agg a.c.toArray, .agg b.c.toArray] w fun e w' => e = .returned (.int .i64 (a.cmp b)) ∧ Grew w w' := Cmp_anyg a.v b.v a.b b.b a.ok b.ok w
theorem Good_ad (a : Ad) (w : World) : Calls Tryz.prog 55 #[.agg a.c.toArray] w fun e w' => e = .returned (.bool a.good) ∧ Mod (fun _ => False) w w' := addrGood_any a.v a.b a.ok.1 w
theorem bytes_ad (a : Ad) (w : World) : Calls Tryz.prog 123 #[.agg a.c.toArray] w fun e w' => e = .returned (.string a.key) ∧ Mod (fun _ => False) w w' := by
  obtain ⟨v, b, ok⟩ := a
  cases v with
  | true => exact bytes6 b ok.1 w
  | false =>
    obtain ⟨x, y, z, u, r, rfl, hr⟩ := adr_four ok.1
    exact bytes4 x y z u r w
set_option maxRecDepth 100000 in
theorem Bytes_ad (a : Ad) (w : World) : Calls Tryz.prog 103 #[.agg a.c.toArray] w fun e w' => e = .returned (.string a.key) ∧ Mod (fun _ => False) w w' := by
  have HS := Lib.hid a.c_sz
  have HA := Lib.hid (Blk.new w 36 a.c)
  have HM : Hid (Mod (fun _ => False) w (w.alloc (.cells a.c.toArray 36 (0, 0)))) := Lib.hid ((Mod.refl _ _).alloc _)
  go_enter Tryz.func103, Tryz.ntmps103
  go_wp2_with (first | (refine wpList_load_blk rfl _ _ rfl w.heap.size 0 rfl 36 a.c a.c _ HA.out (List.take_of_length_le (Nat.le_refl _)) Tryz.underlying36 rfl HS.out ?_))
  refine (bytes_ad a _).mono ?_; rintro e w1 ⟨rfl, hm⟩
  have HM1 := Lib.hid (HM.out.trans hm fun _ f => f.elim)
  clear hm
  go_wp2
  go_returns
  exact ⟨rfl, HM1.out⟩
set_option maxRecDepth 100000 in
theorem key_ad (a : Ad) (w : World) : Calls Tryz.prog 54 #[.agg a.c.toArray] w fun e w' => e = .returned (.string a.key) ∧ Mod (fun _ => False) w w' := by
  have HS := Lib.hid a.c_sz
  have HA := Lib.hid (Blk.new w 36 a.c)
  have HM : Hid (Mod (fun _ => False) w (w.alloc (.cells a.c.toArray 36 (0, 0)))) := Lib.hid ((Mod.refl _ _).alloc _)
  go_enter Tryz.func54, Tryz.ntmps54
  go_wp2_with (first | (refine wpList_load_blk rfl _ _ rfl w.heap.size 0 rfl 36 a.c a.c _ HA.out (List.take_of_length_le (Nat.le_refl _)) Tryz.underlying36 rfl HS.out ?_))
  refine (Bytes_ad a _).mono ?_; rintro e w1 ⟨rfl, hm⟩
  have HM1 := Lib.hid (HM.out.trans hm fun _ f => f.elim)
  clear hm
  go_wp2
  go_returns
  exact ⟨rfl, HM1.out⟩
theorem Read_ad {a : Ad} (h : a.good = true) (w : World) : Calls Tryz.prog 83 #[.string a.key] w fun e w' => e = .returned (.tuple #[.agg a.c.toArray, .int .i64 0]) ∧ Mod (fun _ => False) w w' := by
  obtain ⟨h1, h2, h3⟩ := Ad.read_eq h
  have := addrRead_yes a.key a.key.size h1 rfl w
  rw [h2, h3] at this
  exact this
set_option maxRecDepth 100000 in
set_option maxHeartbeats 1000000 in
theorem Clone_ad (v : Value) (l : List Ad) (w : World) (hr : RdA w v l) (hn : l.length ≤ 3000) :
    Calls Tryz.prog 90 #[v] w fun e w' => ∃ v', e = .returned v' ∧ RowA w' (fun k => w.heap.size ≤ k) v' l ∧ Mod (fun _ => False) w w' := by
  obtain ⟨n, hln⟩ : ∃ n, n = l.length := ⟨_, rfl⟩
  obtain ⟨xs, hxs⟩ : ∃ xs, xs = cellsA l := ⟨_, rfl⟩
  have hl : xs.length = n * 17 := by rw [hxs, hln]; exact cellsA_len l
  have h1 : ∀ u ∈ xs, u.oneCell' = true := hxs ▸ cellsA_one l
  unfold RdA at hr
  unfold RowA
  rw [← hln, ← hxs] at hr ⊢
  rw [← hln] at hn
  clear hln hxs
  obtain ⟨ad, cp, rfl, hnc, hcm, hg⟩ := hr
  have HR : Hid (Reads (w.alloc (.cells #[] 36 (0, 0))) (.slice ad n cp) n xs) := Lib.hid ((show Reads w (.slice ad n cp) n xs from ⟨ad, cp, rfl, hnc, hcm, hg⟩).keep0 ((Mod.refl _ _).alloc _))
  have HE := Lib.hid (Row.empty w 36 17)
  have HL := Lib.hid hl
  have H1 := Lib.hid h1
  cases ad with
  | none =>
    have h0 : n = 0 := by
      by_cases h : 0 < n
      · obtain ⟨g, o, e, _⟩ := hg h
        cases e
      · omega
    subst h0
    have hx : xs = [] := List.eq_nil_of_length_eq_zero (by simpa using hl)
    clear hg
    have hE : ∀ w : World, (binOp .eql 24 (.slice none 0 cp) (.slice none 0 0)).run Tryz.prog w = .ok (.bool true) w := fun w => run_eql_slice_nil Tryz.underlying24 _ _ _ w
    go_enter Tryz.func90, Tryz.ntmps90
    go_wp2
    go_ret
    subst hx
    exact ⟨_, rfl, Row.nil _ _ _ _, Mod.refl _ _⟩
  | some a =>
    clear hg
    have hE : ∀ w : World, (binOp .eql 24 (.slice (some a) n cp) (.slice none 0 0)).run Tryz.prog w = .ok (.bool false) w := fun w => run_eql_slice_nil Tryz.underlying24 _ _ _ w
    go_enter Tryz.func90, Tryz.ntmps90
    go_wp2_with (at_builtin; refine wpList_append_reads Tryz.elA rfl (.tmp 5) (.tmp 6) rfl (fun k => w.heap.size ≤ k) _ 0 [] rfl HE.out _ n xs rfl HR.out HL.out H1.out (by omega) (by unfold maxLen; omega) ?_; intro v' w' h2 h3; have H2 := Lib.hid h2; have H3 := Lib.hid h3; clear h2 h3)
    go_ret
    refine ⟨_, rfl, ?_, ?_⟩
    · have h2 := H2.out
      rw [Nat.zero_add, List.nil_append] at h2
      exact h2.mono fun k hk => hk.elim (fun h => h) fun h => Nat.le_trans (by simp) h
    · exact ((Mod.refl (fun _ => False) w).alloc _).trans H3.out fun x hx => .inr hx
end Go.Proofs.YtcccdlmngddalaaGreat
