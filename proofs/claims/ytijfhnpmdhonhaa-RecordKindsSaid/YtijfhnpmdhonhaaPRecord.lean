/- What record.Put, record.Get and their references compute. -/
import Derived.Test.YtijfhnpmdhonhaaPTree
set_option linter.unusedVariables false
set_option linter.unusedSimpArgs false
namespace Go.Px
open Go Go.Sh
def le4 (x : Int) : List Int := [x % 256, x / 256 % 256, x / 65536 % 256, x / 16777216 % 256]
abbrev zO : Order := Order.mk 0 0 (Party.mk 0 0) 0 0
abbrev mE : ByteArray := ⟨#[]⟩
abbrev zR : Record := Record.mk 0 mE zO 0
abbrev MayP (p : Party) : Prop := 1 ≤ p.Size ∧ p.Size ≤ 8 ∧ 0 ≤ p.Wheels ∧ p.Wheels ≤ 2 ∧ 2 * p.Wheels ≤ p.Size
theorem party_May_eq (k : Nat) (p : Party) : party_May k p = some (decide (MayP p)) := by
  unfold party_May MayP
  by_cases h1 : p.Size < 1
  · rw [condD h1, decide_eq_false (by omega)]
  by_cases h2 : 8 < p.Size
  · rw [condN h1, condD h2, decide_eq_false (by omega)]
  by_cases h3 : p.Wheels < 0
  · rw [condN h1, condN h2, condD h3, decide_eq_false (by omega)]
  by_cases h4 : p.Wheels ≤ 2
  · rw [condN h1, condN h2, condN h3, condD h4, wr_id (by omega) (by omega)]
    congr 1
    rw [decide_eq_decide]
    omega
  · rw [condN h1, condN h2, condN h3, condN h4, decide_eq_false (by omega)]
theorem ref6_MayParty_eq (k : Nat) (p : Party) : ref6_MayParty k p = some (decide (MayP p)) := by
  unfold ref6_MayParty MayP
  by_cases h1 : 1 ≤ p.Size
  · by_cases h2 : p.Size ≤ 8
    · by_cases h3 : 0 ≤ p.Wheels
      · by_cases h4 : p.Wheels ≤ 2
        · rw [condD h1, condD h2, condD h3, condD h4, wr_id (by omega) (by omega)]
          congr 1
          rw [decide_eq_decide]
          omega
        · rw [condD h1, condD h2, condD h3, condN h4, decide_eq_false (by omega)]
      · rw [condD h1, condD h2, condN h3, decide_eq_false (by omega)]
    · rw [condD h1, condN h2, decide_eq_false (by omega)]
  · rw [condN h1, decide_eq_false (by omega)]
abbrev MayO (o : Order) : Prop := (1 ≤ o.Id ∧ o.Id ≤ 2147483647) ∧ (1 ≤ o.State ∧ o.State ≤ 3) ∧ MayP o.Party ∧ (0 ≤ o.Until ∧ o.Until ≤ 1099511627776) ∧ (-1 ≤ o.First ∧ o.First ≤ 4095)
theorem record_in_eq (k : Nat) (x a b : Int) : record_in k x a b = some (decide (a ≤ x ∧ x ≤ b)) := by
  unfold record_in
  by_cases h : a ≤ x
  · rw [condD h]; congr 1; rw [decide_eq_decide]; omega
  · rw [condN h, decide_eq_false (by omega)]
theorem condAnd {p q : Prop} [Decidable p] [Decidable q] {x : Option Bool} (h : x = some (decide q)) : cond (decide p) x (some false) = some (decide (p ∧ q)) := by
  by_cases hp : p
  · rw [condD hp, h]; simp [hp]
  · rw [condN hp]; simp [hp]
theorem record_order_eq (k : Nat) (o : Order) : record_order k o = some (decide (MayO o)) := by
  unfold record_order MayO
  rw [bindS (record_in_eq _ _ _ _)]
  refine condAnd ?_
  rw [bindS (record_in_eq _ _ _ _)]
  refine condAnd ?_
  rw [bindS (party_May_eq _ _)]
  refine condAnd ?_
  rw [bindS (record_in_eq _ _ _ _)]
  refine condAnd ?_
  rw [bindS (record_in_eq _ _ _ _)]
theorem ref19_mayOrder_eq (k : Nat) (o : Order) : ref19_mayOrder k o = some (decide (MayO o)) := by
  unfold ref19_mayOrder
  have : MayO o ↔ (1 ≤ o.Id ∧ o.Id ≤ 2147483647 ∧ 1 ≤ o.State ∧ o.State ≤ 3 ∧ MayP o.Party ∧ 0 ≤ o.Until ∧ o.Until ≤ 1099511627776 ∧ -1 ≤ o.First ∧ o.First < 4096) := by
    constructor
    · rintro ⟨⟨a, b⟩, ⟨c, d⟩, e, ⟨f, g⟩, h1, h2⟩
      exact ⟨a, b, c, d, e, f, g, h1, by omega⟩
    · rintro ⟨a, b, c, d, e, f, g, h1, h2⟩
      exact ⟨⟨a, b⟩, ⟨c, d⟩, e, ⟨f, g⟩, h1, by omega⟩
  rw [decide_eq_decide.2 this]
  refine condAnd ?_
  refine condAnd ?_
  refine condAnd ?_
  refine condAnd ?_
  rw [bindS (ref6_MayParty_eq _ _)]
  refine condAnd ?_
  refine condAnd ?_
  refine condAnd ?_
  refine condAnd ?_
  rfl
abbrev May (r : Record) : Prop := if r.Kind = 1 then r.Text.size ≤ 1048576 ∧ r.Order = zO ∧ r.Time = 0 else if r.Kind = 2 then r.Text = mE ∧ MayO r.Order ∧ r.Time = 0 else if r.Kind = 3 then r.Text = mE ∧ r.Order = zO ∧ 0 ≤ r.Time ∧ r.Time ≤ 1099511627776 else r.Kind = 4 ∧ r.Text = mE ∧ r.Order = zO ∧ r.Time = 0
theorem rec_eq (r : Record) (a : Int) (b : ByteArray) (c : Order) (d : Int) : r = Record.mk a b c d ↔ r.Kind = a ∧ r.Text = b ∧ r.Order = c ∧ r.Time = d := by
  cases r; simp
theorem record_May_eq (k : Nat) (r : Record) : record_May k r = some (decide (May r)) := by
  unfold record_May May
  by_cases h1 : r.Kind = 1
  · rw [condD h1]
    simp only [if_pos h1]
    rw [condAnd rfl]
    congr 1
    rw [decide_eq_decide, rec_eq]
    simp only [true_and]
    constructor <;> intro h <;> refine ⟨by omega, h.2⟩
  rw [condN h1]
  simp only [if_neg h1]
  by_cases h2 : r.Kind = 2
  · rw [condD h2]
    simp only [if_pos h2]
    rw [bindS (record_order_eq _ _), condAnd rfl]
    congr 1
    rw [decide_eq_decide, rec_eq]
    simp only [true_and]
    constructor
    · rintro ⟨a, b, c⟩; exact ⟨b, a, c⟩
    · rintro ⟨a, b, c⟩; exact ⟨b, a, c⟩
  rw [condN h2]
  simp only [if_neg h2]
  by_cases h3 : r.Kind = 3
  · rw [condD h3]
    simp only [if_pos h3]
    rw [bindS (record_in_eq _ _ _ _), condAnd rfl]
    congr 1
    rw [decide_eq_decide, rec_eq]
    simp only [true_and, and_true]
    constructor
    · rintro ⟨⟨a, b⟩, c, d⟩; exact ⟨c, d, a, b⟩
    · rintro ⟨c, d, a, b⟩; exact ⟨⟨a, b⟩, c, d⟩
  rw [condN h3]
  simp only [if_neg h3]
  rw [condAnd rfl]
  congr 1
  rw [decide_eq_decide, rec_eq]
  simp only [true_and]
theorem cond_beq {α : Type} {s t : ByteArray} {a b : α} : cond (s == t) a b = cond (decide (s = t)) a b := by rw [ba_eq]
theorem ref19_MayRecord_eq (k : Nat) (r : Record) : ref19_MayRecord k r = some (decide (May r)) := by
  unfold ref19_MayRecord May
  simp only [cond_beq]
  by_cases h1 : r.Kind = 1
  · rw [condD h1]
    simp only [if_pos h1]
    rw [condAnd (condAnd rfl)]
    congr 1
    rw [decide_eq_decide]
    constructor <;> intro h <;> refine ⟨by omega, h.2⟩
  rw [condN h1]
  simp only [if_neg h1]
  by_cases h2 : r.Kind = 2
  · rw [condD h2]
    simp only [if_pos h2]
    rw [bindS (ref19_mayOrder_eq _ _), condAnd (condAnd rfl)]
  rw [condN h2]
  simp only [if_neg h2]
  by_cases h3 : r.Kind = 3
  · rw [condD h3]
    simp only [if_pos h3]
    rw [condAnd (condAnd (condAnd rfl))]
  rw [condN h3]
  simp only [if_neg h3]
  rw [condAnd rfl]
  congr 1
  rw [decide_eq_decide, rec_eq]
  constructor
  · rintro ⟨a, b, c⟩; exact ⟨a, c⟩
  · rintro ⟨a, c⟩; exact ⟨a, a, c⟩
/- the bytes of four -/
theorem u8m (x : Int) : IntKind.u8.wrap x = x % 256 := IntKind.wrap_u8 x
theorem put_step (k : Nat) (x : Int) (n : Nat) (v : List Int) (i : Nat) (hi : i < 4) (hv : v.length ≤ 100) :
    sum_Put_l0 k x (n + 1) v (i : Int) = sum_Put_l0 k x n (v ++ [x / 2 ^ (8 * i) % 256]) ((i + 1 : Nat) : Int) := by
  have e1 : IntKind.u64.wrap (wr (8 * (i : Int))) = 8 * (i : Int) := by rw [wr_id (by omega) (by omega), wu_id (by omega) (by omega)]
  have e : min (8 * (i : Int)).toNat IntKind.u32.bits = 8 * i := by
    show min _ 32 = _
    omega
  rw [sum_Put_l0, condD (by omega), e1, gdD (by omega), e, gdD (by simp only [List.length_cons, List.length_nil]; omega), wr_succ (by omega), u8m,
    Int.fdiv_eq_ediv_of_nonneg _ (by exact Int.pow_nonneg (by omega))]
theorem sum_Put_eq (k : Nat) (x : Int) (h4 : 4 < k) : sum_Put k x = some (le4 x) := by
  unfold sum_Put
  obtain ⟨n, rfl⟩ : ∃ n, k = n + 5 := ⟨k - 5, by omega⟩
  have h0 : sum_Put_l0 (n + 5) x (n + 5) [] 0 = _ := put_step (n + 5) x (n + 4) [] 0 (by omega) (by simp)
  rw [h0, put_step _ _ _ _ _ (by omega) (by simp), put_step _ _ _ _ _ (by omega) (by simp), put_step _ _ _ _ _ (by omega) (by simp), sum_Put_l0, condN (by omega)]
  rw [bindS rfl]
  congr 1
  unfold le4
  simp
def le8 (t : Int) : List Int := le4 (t % 4294967296) ++ le4 (t / 4294967296 % 4294967296)
theorem record_time_eq (k : Nat) (t : Int) (h4 : 4 < k) : record_time k t = some (le8 t) := by
  unfold record_time
  rw [bindS (sum_Put_eq _ _ h4), bindS (sum_Put_eq _ _ h4), gdD (by unfold le4; simp), IntKind.wrap_u32, IntKind.wrap_u32]
  have : t.fdiv (2 ^ (min (32 : Int).toNat IntKind.i64.bits)) = t / 4294967296 := Int.fdiv_eq_ediv_of_nonneg _ (by decide)
  rw [this]
  rfl
def bytesR (r : Record) : List Int := if r.Kind = 1 then 1 :: bytesI r.Text else if r.Kind = 2 then ((([2] ++ le4 r.Order.Id) ++ [r.Order.State, r.Order.Party.Size, r.Order.Party.Wheels]) ++ le8 r.Order.Until) ++ le4 (r.Order.First + 1) else if r.Kind = 3 then [3] ++ le8 r.Time else [4]
def putR (r : Record) : List Int × Int := if May r then (bytesR r, 0) else ([], 1)
theorem le4_len (x : Int) : (le4 x).length = 4 := rfl
theorem le8_len (x : Int) : (le8 x).length = 8 := rfl
theorem bytesI_len (s : ByteArray) : (bytesI s).length = s.size := by unfold bytesI; rw [List.length_map, Array.length_toList]; rfl
theorem record_Put_eq (k : Nat) (r : Record) (h4 : 4 < k) : record_Put k r = some (putR r) := by
  unfold record_Put putR
  rw [bindS (record_May_eq _ _)]
  by_cases hm : May r
  · rw [condF (by rw [decide_eq_true hm]; rfl), if_pos hm]
    unfold May at hm
    unfold bytesR
    by_cases h1 : r.Kind = 1
    · simp only [if_pos h1] at hm ⊢
      rw [condD h1, gdD (by rw [bytesI_len, List.length_singleton]; omega), h1]
      rfl
    rw [condN h1]
    simp only [if_neg h1] at hm ⊢
    by_cases h2 : r.Kind = 2
    · simp only [if_pos h2] at hm ⊢
      obtain ⟨m1, ⟨m2, m3, m4, m5, m6⟩, m7⟩ := hm
      unfold MayP at m4
      rw [condN (by omega), condD h2, bindS (sum_Put_eq _ _ h4), gdD (by simp [le4_len]), gdD (by simp [le4_len]), bindS (record_time_eq _ _ h4), gdD (by simp [le4_len, le8_len]), bindS (sum_Put_eq _ _ h4), gdD (by simp [le4_len, le8_len]),
        wr_id (by omega) (by omega), wu8 (x := r.Kind) (by omega) (by omega), wu8 (x := r.Order.State) (by omega) (by omega), wu8 (x := r.Order.Party.Size) (by omega) (by omega), wu8 (x := r.Order.Party.Wheels) (by omega) (by omega), wu32 (by omega) (by omega), wu32 (by omega) (by omega), h2]
    simp only [if_neg h2] at hm ⊢
    by_cases h3 : r.Kind = 3
    · simp only [if_pos h3] at hm ⊢
      rw [condD h3, bindS (record_time_eq _ _ h4), gdD (by simp [le8_len]), h3]
      rfl
    simp only [if_neg h3] at hm ⊢
    rw [condN h3, condN h2, condD hm.1, hm.1]
    rfl
  · rw [condT (by rw [decide_eq_false hm]; rfl), if_neg hm]
end Go.Px
