/- What record.Get and its reference compute. -/
import Derived.Test.YtijfhnpmdhonhaaPRecord
set_option linter.unusedVariables false
set_option linter.unusedSimpArgs false
namespace Go.Px
open Go Go.Sh
theorem ba_ext {x y : ByteArray} (h : x.data.toList = y.data.toList) : x = y := by
  obtain ⟨⟨x⟩⟩ := x
  obtain ⟨⟨y⟩⟩ := y
  simp only at h
  rw [h]
theorem strOf_data (l : List Int) : (strOf l).data.toList = l.map (fun n => UInt8.ofNat n.toNat) := by
  unfold strOf
  rw [strOf_push]
  rfl
theorem strOf_bytesI (s : ByteArray) : strOf (bytesI s) = s := by
  apply ba_ext
  rw [strOf_data]
  unfold bytesI
  rw [List.map_map]
  conv => rhs; rw [← List.map_id s.data.toList]
  refine List.map_congr_left fun b _ => ?_
  simp
theorem bytesI_strOf {l : List Int} (h : Byt l) : bytesI (strOf l) = l := by
  unfold bytesI
  rw [strOf_data, List.map_map]
  conv => rhs; rw [← List.map_id l]
  refine List.map_congr_left fun b hb => ?_
  have := h b hb
  simp only [Function.comp, id, UInt8.toNat_ofNat']
  omega
theorem byt_bytesI (s : ByteArray) : Byt (bytesI s) := by
  intro x hx
  unfold bytesI at hx
  obtain ⟨b, _, rfl⟩ := List.mem_map.1 hx
  have := b.toNat_lt
  omega
theorem byt_le4 (x : Int) : Byt (le4 x) := by
  intro y hy
  unfold le4 at hy
  simp only [List.mem_cons, List.not_mem_nil, or_false] at hy
  omega
theorem byt_le8 (x : Int) : Byt (le8 x) := (byt_le4 _).app (byt_le4 _)
theorem byt_bytesR {r : Record} (h : May r) : Byt (bytesR r) := by
  unfold bytesR
  split
  · intro x hx
    rcases List.mem_cons.1 hx with rfl | hx
    · omega
    · exact byt_bytesI _ x hx
  · rename_i h1
    split
    · rename_i h2
      unfold May at h
      rw [if_neg h1, if_pos h2] at h
      unfold MayO MayP at h
      refine (((Byt.app ?_ (byt_le4 _)).app ?_).app (byt_le8 _)).app (byt_le4 _)
      · intro x hx
        simp only [List.mem_cons, List.not_mem_nil, or_false] at hx
        omega
      · intro x hx
        simp only [List.mem_cons, List.not_mem_nil, or_false] at hx
        omega
    · split
      · refine Byt.app ?_ (byt_le8 _)
        intro x hx
        simp only [List.mem_cons, List.not_mem_nil, or_false] at hx
        omega
      · intro x hx
        simp only [List.mem_cons, List.not_mem_nil, or_false] at hx
        omega
theorem byt_putR (r : Record) : Byt (putR r).1 := by
  unfold putR
  split
  · rename_i h; exact byt_bytesR h
  · intro x hx; exact absurd hx List.not_mem_nil
/- the reference's writer -/
theorem ref19_Put_eq (k : Nat) (x : Int) : ref19_Put k x = some (strOf (le4 x)) := by
  unfold ref19_Put le4
  simp only [u8m]
  have e0 : x.fdiv (2 ^ (min (8 : Int).toNat IntKind.u32.bits)) = x / 256 := Int.fdiv_eq_ediv_of_nonneg _ (by decide)
  have e1 : x.fdiv (2 ^ (min (16 : Int).toNat IntKind.u32.bits)) = x / 65536 := Int.fdiv_eq_ediv_of_nonneg _ (by decide)
  have e2 : x.fdiv (2 ^ (min (24 : Int).toNat IntKind.u32.bits)) = x / 16777216 := Int.fdiv_eq_ediv_of_nonneg _ (by decide)
  rw [e0, e1, e2]
theorem le4_wrap (x : Int) : le4 (x % 4294967296) = le4 x := by
  unfold le4
  have e1 : x % 4294967296 % 256 = x % 256 := by omega
  have e2 : x % 4294967296 / 256 % 256 = x / 256 % 256 := by omega
  have e3 : x % 4294967296 / 65536 % 256 = x / 65536 % 256 := by omega
  have e4 : x % 4294967296 / 16777216 % 256 = x / 16777216 % 256 := by omega
  rw [e1, e2, e3, e4]
theorem ref19_long_eq (k : Nat) (x : Int) (h0 : 0 ≤ x) (h1 : x ≤ 1099511627776) : ref19_long k x = some (strOf (le8 x)) := by
  unfold ref19_long
  have e : (IntKind.u64.wrap x).fdiv (2 ^ (min (32 : Int).toNat IntKind.u64.bits)) = x / 4294967296 := by
    rw [wu64 (by omega) (by omega)]
    exact Int.fdiv_eq_ediv_of_nonneg _ (by decide)
  rw [bindS (ref19_Put_eq _ _), bindS (ref19_Put_eq _ _), gdD (by rw [strOf_size, strOf_size, le4_len, le4_len]; omega), e, wu64 (by omega) (by omega), IntKind.wrap_u32, IntKind.wrap_u32, ← strOf_append]
  rfl
theorem ref19_PutRecord_eq (k : Nat) (r : Record) (h4 : 4 < k) : ref19_PutRecord k r = some (strOf (putR r).1, (putR r).2) := by
  unfold ref19_PutRecord putR
  rw [bindS (ref19_MayRecord_eq _ _)]
  by_cases hm : May r
  · rw [condF (by rw [decide_eq_true hm]; rfl), if_pos hm]
    unfold May at hm
    unfold bytesR
    by_cases h1 : r.Kind = 1
    · simp only [if_pos h1] at hm ⊢
      have e : strOf (1 :: bytesI r.Text) = strOf [1] ++ r.Text := by
        conv => rhs; rw [← strOf_bytesI r.Text]
        rw [← strOf_append]
        rfl
      rw [condD h1, gdD (by rw [strOf_size, List.length_singleton]; omega), h1, e]
      rfl
    rw [condN h1]
    simp only [if_neg h1] at hm ⊢
    by_cases h2 : r.Kind = 2
    · simp only [if_pos h2] at hm ⊢
      obtain ⟨m1, ⟨m2, m3, m4, m5, m6⟩, m7⟩ := hm
      rw [condD h2, bindS (ref19_Put_eq _ _), gdD (by simp [le4_len, strOf_size]), ← strOf_append, gdD (by simp [le4_len, strOf_size]), ← strOf_append, bindS (ref19_long_eq _ _ (by omega) (by omega)),
        gdD (by simp [le4_len, le8_len, strOf_size]), bindS (ref19_Put_eq _ _), ← strOf_append, gdD (by simp [le4_len, le8_len, strOf_size]), ← strOf_append,
        wr_id (by omega) (by omega), wu8 (x := r.Kind) (by omega) (by omega), wu8 (x := r.Order.State) (by omega) (by omega), wu8 (x := r.Order.Party.Size) (by omega) (by omega), wu8 (x := r.Order.Party.Wheels) (by omega) (by omega), wu32 (by omega) (by omega), wu32 (by omega) (by omega), h2]
    simp only [if_neg h2] at hm ⊢
    rw [condN h2]
    by_cases h3 : r.Kind = 3
    · simp only [if_pos h3] at hm ⊢
      rw [condD h3, bindS (ref19_long_eq _ _ (by omega) (by omega)), gdD (by simp [le8_len, strOf_size]), ← strOf_append, h3]
      rfl
    simp only [if_neg h3] at hm ⊢
    rw [condN h3, hm.1]
    rfl
  · rw [condT (by rw [decide_eq_false hm]; rfl), if_neg hm]
    rfl
/- the readers -/
def g4 (l : List Int) (p : Nat) : Int := l.getD p 0 + 256 * l.getD (p + 1) 0 + 65536 * l.getD (p + 2) 0 + 16777216 * l.getD (p + 3) 0
def gv (l : List Int) (p : Nat) : Int := if p + 4 ≤ l.length then g4 l p else 0
theorem byt_getD {l : List Int} (h : Byt l) (p : Nat) : 0 ≤ l.getD p 0 ∧ l.getD p 0 < 256 := by
  rw [List.getD_eq_getElem?_getD]
  cases e : l[p]? with
  | none => simp
  | some x => exact h x (List.mem_of_getElem? e)
theorem g4_lt {l : List Int} (h : Byt l) (p : Nat) : 0 ≤ g4 l p ∧ g4 l p < 4294967296 := by
  have h0 := byt_getD h p
  have h1 := byt_getD h (p + 1)
  have h2 := byt_getD h (p + 2)
  have h3 := byt_getD h (p + 3)
  unfold g4
  omega
theorem gv_lt {l : List Int} (h : Byt l) (p : Nat) : 0 ≤ gv l p ∧ gv l p < 4294967296 := by
  unfold gv
  split
  · exact g4_lt h p
  · omega
theorem idx_D {l : List Int} {p : Nat} (h : p < l.length) : idx l (p : Int) = some (l.getD p 0) := by
  rw [idx_nat h, List.getD_eq_getElem?_getD, List.getElem?_eq_getElem h]
  rfl
theorem or32 {a c : Int} {s : Nat} (hs : s ≤ 24) (h0 : 0 ≤ a) (h1 : a < 2 ^ s) (hc : 0 ≤ c ∧ c < 256) :
    IntKind.u32.wrap (((BitVec.ofInt IntKind.u32.bits a ||| BitVec.ofInt IntKind.u32.bits (IntKind.u32.wrap (IntKind.u32.wrap c * 2 ^ s))).toNat : Nat) : Int) = a + c * 2 ^ s := by
  obtain ⟨c, rfl⟩ := Int.eq_ofNat_of_zero_le hc.1
  obtain ⟨a, rfl⟩ := Int.eq_ofNat_of_zero_le h0
  have ec : (c : Int) * 2 ^ s = ((c * 2 ^ s : Nat) : Int) := by rw [Int.natCast_mul, Int.natCast_pow]; rfl
  have ha : a < 2 ^ s := by
    have : ((a : Nat) : Int) < ((2 ^ s : Nat) : Int) := by rw [Int.natCast_pow]; exact h1
    exact Int.ofNat_lt.1 this
  have hp : 2 ^ s ≤ 2 ^ 24 := Nat.pow_le_pow_right (by omega) hs
  have hm : c * 2 ^ s ≤ 255 * 2 ^ s := Nat.mul_le_mul_right _ (by omega)
  rw [wu32 (x := (c : Int)) (by omega) (by omega), ec, wu32 (x := ((c * 2 ^ s : Nat) : Int)) (by omega) (by omega), show IntKind.u32.bits = 32 from rfl, or_nat (by omega) (by omega)]
  have e5 : a ||| c * 2 ^ s = a + c * 2 ^ s := by
    rw [Nat.or_comm, Nat.mul_comm c, ← Nat.two_pow_add_eq_or_of_lt ha, Nat.add_comm]
  rw [e5]
  exact wu32 (by omega) (by omega)
theorem get_step (k : Nat) (l : List Int) (p : Nat) (n : Nat) (a : Int) (i : Nat) (hi : i < 4) (hl : l.length ≤ 4294967296) (hp : p + 4 ≤ l.length) (hB : Byt l) (h0 : 0 ≤ a) (h1 : a < 2 ^ (8 * i)) :
    sum_Get_l0 k l (p : Int) (n + 1) a (i : Int) = sum_Get_l0 k l (p : Int) n (a + l.getD (p + i) 0 * 2 ^ (8 * i)) ((i + 1 : Nat) : Int) := by
  have e1 : IntKind.u64.wrap (wr (8 * (i : Int))) = 8 * (i : Int) := by rw [wr_id (by omega) (by omega), wu_id (by omega) (by omega)]
  have e : min (8 * (i : Int)).toNat IntKind.u32.bits = 8 * i := by
    show min _ 32 = _
    omega
  have e3 : wr ((p : Int) + (i : Int)) = ((p + i : Nat) : Int) := by rw [wr_id (by omega) (by omega)]; omega
  rw [sum_Get_l0, condD (by omega), e3, bindS (idx_D (by omega)), e1, gdD (by omega), e, wr_succ (by omega), or32 (by omega) h0 h1 (byt_getD hB _)]
theorem sum_Get_eq (k : Nat) (l : List Int) (p : Nat) (h4 : 4 < k) (hB : Byt l) (hl : l.length ≤ 4294967296) (hp : p ≤ 100) : sum_Get k l (p : Int) = some (gv l p, if p + 4 ≤ l.length then 0 else 10) := by
  unfold sum_Get gv
  rw [wr_id (x := (l.length : Int) - 4) (by omega) (by omega), condN (by omega), bindS rfl]
  by_cases h : p + 4 ≤ l.length
  · rw [condN (by omega), if_pos h, if_pos h]
    obtain ⟨n, rfl⟩ : ∃ n, k = n + 5 := ⟨k - 5, by omega⟩
    have b0 := byt_getD hB (p + 0)
    have b1 := byt_getD hB (p + 1)
    have b2 := byt_getD hB (p + 2)
    have b3 := byt_getD hB (p + 3)
    have h0 : sum_Get_l0 (n + 5) l p (n + 5) 0 0 = sum_Get_l0 (n + 5) l p (n + 4) (0 + l.getD (p + 0) 0 * 2 ^ (8 * 0)) ((1 : Nat) : Int) := get_step (n + 5) l p (n + 4) 0 0 (by omega) hl h hB (by omega) (by omega)
    have h1 := get_step (n + 5) l p (n + 3) (0 + l.getD (p + 0) 0 * 2 ^ (8 * 0)) 1 (by omega) hl h hB (by omega) (by omega)
    have h2 := get_step (n + 5) l p (n + 2) (i := 2) (by omega) hl h hB (a := 0 + l.getD (p + 0) 0 * 2 ^ (8 * 0) + l.getD (p + 1) 0 * 2 ^ (8 * 1)) (by omega) (by omega)
    have h3 := get_step (n + 5) l p (n + 1) (i := 3) (by omega) hl h hB (a := 0 + l.getD (p + 0) 0 * 2 ^ (8 * 0) + l.getD (p + 1) 0 * 2 ^ (8 * 1) + l.getD (p + 2) 0 * 2 ^ (8 * 2)) (by omega) (by omega)
    rw [h0, h1, h2, h3, sum_Get_l0, condN (by omega), bindS rfl]
    congr 2
    unfold g4
    rw [Nat.add_zero] at *
    omega
  · rw [condD (by omega), if_neg h, if_neg h]
theorem ref19_Get_eq (k : Nat) (l : List Int) (p : Nat) (hB : Byt l) (hl : l.length ≤ 4294967296) (hp : p ≤ 100) : ref19_Get k (strOf l) (p : Int) = some (gv l p, if p + 4 ≤ l.length then 0 else 10) := by
  unfold ref19_Get gv
  rw [condN (by omega), strOf_size]
  by_cases h1 : l.length < p
  · rw [condD (by omega), if_neg (by omega), if_neg (by omega)]
  rw [condN (by omega), wr_id (x := (l.length : Int) - p) (by omega) (by omega)]
  by_cases h : p + 4 ≤ l.length
  · have i1 : ∀ j : Nat, p + j < l.length → idx l ((p : Int) + (j : Int)) = some (l.getD (p + j) 0) := fun j hj => by rw [← idx_D hj]; rfl
    rw [condN (by omega), if_pos h, if_pos h, bytesI_strOf hB, wr_id (x := (p : Int) + 1) (by omega) (by omega), wr_id (x := (p : Int) + 2) (by omega) (by omega), wr_id (x := (p : Int) + 3) (by omega) (by omega),
      bindS (idx_D (by omega)), bindS (show idx l ((p : Int) + 1) = _ from i1 1 (by omega)), bindS (show idx l ((p : Int) + 2) = _ from i1 2 (by omega)), bindS (show idx l ((p : Int) + 3) = _ from i1 3 (by omega))]
    have b0 := byt_getD hB p
    have b1 := byt_getD hB (p + 1)
    have b2 := byt_getD hB (p + 2)
    have b3 := byt_getD hB (p + 3)
    have e0 : min (8 : Int).toNat IntKind.u32.bits = 8 := rfl
    have e1 : min (16 : Int).toNat IntKind.u32.bits = 16 := rfl
    have e2 : min (24 : Int).toNat IntKind.u32.bits = 24 := rfl
    rw [e0, e1, e2, wu32 (x := l.getD p 0) (by omega) (by omega), or32 (s := 8) (by omega) (by omega) (by omega) b1, or32 (s := 16) (by omega) (by omega) (by omega) b2, or32 (s := 24) (by omega) (by omega) (by omega) b3]
    unfold g4
    congr 2
    omega
  · rw [condD (by omega), if_neg h, if_neg h]
def clk (a b : Int) : Int := wr (IntKind.u64.wrap (((BitVec.ofInt IntKind.u64.bits (IntKind.u64.wrap a) ||| BitVec.ofInt IntKind.u64.bits (IntKind.u64.wrap (IntKind.u64.wrap b * 2 ^ (min (32 : Int).toNat IntKind.u64.bits)))).toNat : Nat) : Int))
def clk' (a b : Int) : Int := IntKind.i64.wrap (((BitVec.ofInt IntKind.i64.bits (wr a) ||| BitVec.ofInt IntKind.i64.bits (IntKind.i64.wrap (wr b * 2 ^ (min (32 : Int).toNat IntKind.i64.bits)))).toNat : Nat) : Int)
theorem clk_eq {a b : Int} (ha : 0 ≤ a ∧ a < 4294967296) (hb : 0 ≤ b ∧ b < 2147483648) : clk a b = a + b * 4294967296 := by
  obtain ⟨c, rfl⟩ := Int.eq_ofNat_of_zero_le hb.1
  obtain ⟨a, rfl⟩ := Int.eq_ofNat_of_zero_le ha.1
  unfold clk
  have ec : (c : Int) * 2 ^ (min (32 : Int).toNat IntKind.u64.bits) = ((c * 2 ^ 32 : Nat) : Int) := by
    show (c : Int) * 2 ^ 32 = _
    omega
  have e5 : a ||| c * 2 ^ 32 = a + c * 2 ^ 32 := by
    rw [Nat.or_comm, Nat.mul_comm c, ← Nat.two_pow_add_eq_or_of_lt (by omega), Nat.add_comm]
  rw [wu64 (x := (a : Int)) (by omega) (by omega), wu64 (x := (c : Int)) (by omega) (by omega), ec, wu64 (x := ((c * 2 ^ 32 : Nat) : Int)) (by omega) (by omega), show IntKind.u64.bits = 64 from rfl, or_nat (by omega) (by omega), e5, wu64 (by omega) (by omega), wr_id (by omega) (by omega)]
  omega
theorem clk'_eq {a b : Int} (ha : 0 ≤ a ∧ a < 4294967296) (hb : 0 ≤ b ∧ b < 2147483648) : clk' a b = a + b * 4294967296 := by
  obtain ⟨c, rfl⟩ := Int.eq_ofNat_of_zero_le hb.1
  obtain ⟨a, rfl⟩ := Int.eq_ofNat_of_zero_le ha.1
  unfold clk'
  have ec : (c : Int) * 2 ^ (min (32 : Int).toNat IntKind.i64.bits) = ((c * 2 ^ 32 : Nat) : Int) := by
    show (c : Int) * 2 ^ 32 = _
    omega
  have e5 : a ||| c * 2 ^ 32 = a + c * 2 ^ 32 := by
    rw [Nat.or_comm, Nat.mul_comm c, ← Nat.two_pow_add_eq_or_of_lt (by omega), Nat.add_comm]
  have ew : IntKind.i64.wrap ((c * 2 ^ 32 : Nat) : Int) = ((c * 2 ^ 32 : Nat) : Int) := wr_id (by omega) (by omega)
  rw [wr_id (x := (a : Int)) (by omega) (by omega), wr_id (x := (c : Int)) (by omega) (by omega), ec, ew, show IntKind.i64.bits = 64 from rfl, or_nat (by omega) (by omega), e5]
  have : IntKind.i64.wrap ((a + c * 2 ^ 32 : Nat) : Int) = ((a + c * 2 ^ 32 : Nat) : Int) := wr_id (by omega) (by omega)
  rw [this]
  omega
theorem record_clock_eq (k : Nat) (l : List Int) (p : Nat) (h4 : 4 < k) (hB : Byt l) (hl : l.length ≤ 4294967296) (hp : p ≤ 90) : record_clock k l (p : Int) = some (clk (gv l p) (gv l (p + 4))) := by
  unfold record_clock
  rw [bindS (sum_Get_eq k l p h4 hB hl (by omega)), wr_id (x := (p : Int) + 4) (by omega) (by omega), bindS (show sum_Get k l ((p : Int) + 4) = _ from sum_Get_eq k l (p + 4) h4 hB hl (by omega))]
  rfl
end Go.Px
