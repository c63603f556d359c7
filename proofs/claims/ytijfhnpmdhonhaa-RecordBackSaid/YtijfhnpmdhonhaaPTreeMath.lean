/- Rows of bits as bytes: plain mathematics. -/
import Derived.Test.YtijfhnpmdhonhaaPBase
set_option linter.unusedVariables false
set_option linter.unusedSimpArgs false
namespace Go.Px
open Go Go.Sh
theorem eq_of_get {α : Type} {a b : List α} (hl : a.length = b.length) (h : ∀ (j : Nat) x y, a[j]? = some x → b[j]? = some y → x = y) : a = b := by
  apply List.ext_getElem hl
  intro i h1 h2
  exact h i _ _ (List.getElem?_eq_getElem h1) (List.getElem?_eq_getElem h2)
def cnt (x : Bool) (l : List Bool) : Int := (l.count x : Int)
theorem take_succ' {α : Type} {l : List α} {i : Int} {p : α} (h0 : 0 ≤ i) (h : l[i.toNat]? = some p) : l.take (i + 1).toNat = l.take i.toNat ++ [p] := by
  have e : (i + 1).toNat = i.toNat + 1 := by omega
  obtain ⟨h1, rfl⟩ := List.getElem?_eq_some_iff.1 h
  rw [e, List.take_succ_eq_append_getElem h1]
theorem cnt_take {x : Bool} {l : List Bool} {i : Int} {p : Bool} (h0 : 0 ≤ i) (h : l[i.toNat]? = some p) : cnt x (l.take (i + 1).toNat) = cnt x (l.take i.toNat) + (if p = x then 1 else 0) := by
  unfold cnt
  rw [take_succ' h0 h, List.count_append]
  cases p <;> cases x <;> simp
def bv8 (f : Nat → Bool) : Nat := (f 0).toNat + 2 * (f 1).toNat + 4 * (f 2).toNat + 8 * (f 3).toNat + 16 * (f 4).toNat + 32 * (f 5).toNat + 64 * (f 6).toNat + 128 * (f 7).toNat
theorem bv8_lt (f : Nat → Bool) : bv8 f < 256 := by
  unfold bv8
  have := Bool.toNat_le (f 0); have := Bool.toNat_le (f 1); have := Bool.toNat_le (f 2); have := Bool.toNat_le (f 3)
  have := Bool.toNat_le (f 4); have := Bool.toNat_le (f 5); have := Bool.toNat_le (f 6); have := Bool.toNat_le (f 7)
  omega
def bq (b : Nat → Bool) (j : Nat) : Nat → Bool := fun k => if k = j then true else b k
theorem bv8_or (f : Nat → Bool) (j : Nat) (hj : j < 8) (h : f j = false) : bv8 f ||| (1 <<< j) = bv8 (bq f j) := by
  have key : ∀ (a b c d e g h i : Bool) (j : Fin 8), (bv8 fun k => match k with | 0 => a | 1 => b | 2 => c | 3 => d | 4 => e | 5 => g | 6 => h | _ => i) ||| (1 <<< j.val) = (bv8 fun k => if k = j.val then true else match k with | 0 => a | 1 => b | 2 => c | 3 => d | 4 => e | 5 => g | 6 => h | _ => i) := by decide +kernel
  have := key (f 0) (f 1) (f 2) (f 3) (f 4) (f 5) (f 6) (f 7) ⟨j, hj⟩
  exact this
def sel (a b c d e g h i : Bool) (k : Nat) : Bool := match k with | 0 => a | 1 => b | 2 => c | 3 => d | 4 => e | 5 => g | 6 => h | _ => i
theorem bv8_bit (f : Nat → Bool) (j : Nat) (hj : j < 8) : (bv8 f >>> j) &&& 1 = (f j).toNat := by
  have key : ∀ (a b c d e g h i : Bool) (j : Fin 8), (bv8 (sel a b c d e g h i) >>> j.val) &&& 1 = (sel a b c d e g h i j.val).toNat := by decide +kernel
  have := key (f 0) (f 1) (f 2) (f 3) (f 4) (f 5) (f 6) (f 7) ⟨j, hj⟩
  have e : sel (f 0) (f 1) (f 2) (f 3) (f 4) (f 5) (f 6) (f 7) j = f j := by
    match j, hj with
    | 0, _ | 1, _ | 2, _ | 3, _ | 4, _ | 5, _ | 6, _ | 7, _ => rfl
  rw [← e]
  exact this
theorem bv8_congr {f g : Nat → Bool} (h : ∀ j, j < 8 → f j = g j) : bv8 f = bv8 g := by
  unfold bv8
  rw [h 0 (by omega), h 1 (by omega), h 2 (by omega), h 3 (by omega), h 4 (by omega), h 5 (by omega), h 6 (by omega), h 7 (by omega)]
def hdr (n k : Nat) : Nat := n / 2 ^ (8 * k) % 256
def bvl (l : List Bool) (q : Nat) : Nat := bv8 fun j => l.getD (8 * q + j) false
def rng (N : Nat) (g : Nat → Nat) : List Int := (List.range N).map fun k => (g k : Int)
def nb (l : List Bool) : Nat := (l.length + 7) / 8
theorem nb_def (l : List Bool) : nb l = (l.length + 7) / 8 := rfl
def g2 (l : List Bool) (i : Nat) (k : Nat) : Nat := if k < 4 then hdr l.length k else bvl (l.take i) (k - 4)
def g1 (n : Nat) (i : Nat) (k : Nat) : Nat := if k < i then hdr n k else 0
def bytesOf (l : List Bool) : List Int := rng (4 + nb l) (g2 l l.length)
theorem rng_congr {N : Nat} {g g' : Nat → Nat} (h : ∀ q, q < N → g q = g' q) : rng N g = rng N g' := by
  unfold rng
  refine List.map_congr_left fun q hq => ?_
  rw [h q (List.mem_range.1 hq)]
theorem hdr_lt (n k : Nat) : hdr n k < 256 := Nat.mod_lt _ (by omega)
theorem qd {i : Int} (h0 : 0 ≤ i) (h : i ≤ 4294967296) : IntKind.i64.wrap (i.tdiv 8) = i / 8 := by
  rw [Int.tdiv_eq_ediv_of_nonneg h0]
  exact w64 (by omega) (by omega)
theorem rd {i : Int} (h0 : 0 ≤ i) : i.tmod 8 = i % 8 := Int.tmod_eq_emod_of_nonneg h0
theorem shl1 {s : Int} (h0 : 0 ≤ s) (h : s < 8) : IntKind.u8.wrap (1 * 2 ^ (min s.toNat IntKind.u8.bits)) = ((1 <<< s.toNat : Nat) : Int) := by
  obtain ⟨n, rfl⟩ := Int.eq_ofNat_of_zero_le h0
  have h8 : n < 8 := by omega
  have : ∀ n : Fin 8, IntKind.u8.wrap (1 * 2 ^ (min ((n.val : Nat) : Int).toNat IntKind.u8.bits)) = ((1 <<< ((n.val : Nat) : Int).toNat : Nat) : Int) := by decide +kernel
  exact this ⟨n, h8⟩
theorem getD_take {l : List Bool} {i m : Nat} : (l.take i).getD m false = if m < i then l.getD m false else false := by
  simp only [List.getD_eq_getElem?_getD, List.getElem?_take]
  split <;> rfl
theorem bvl_same {l : List Bool} {i q : Nat} {p : Bool} (hp : l[i]? = some p) (h : p = false ∨ q ≠ i / 8) : bvl (l.take (i + 1)) q = bvl (l.take i) q := by
  refine bv8_congr fun j hj => ?_
  rw [getD_take, getD_take]
  by_cases h1 : 8 * q + j < i
  · rw [if_pos h1, if_pos (by omega)]
  · rw [if_neg h1]
    by_cases h2 : 8 * q + j < i + 1
    · have e : 8 * q + j = i := by omega
      rw [if_pos h2, e, List.getD_eq_getElem?_getD, hp]
      rcases h with rfl | h
      · rfl
      · exact absurd (by omega) h
    · rw [if_neg h2]
theorem bvl_or {l : List Bool} {i : Nat} (hp : l[i]? = some true) : bvl (l.take i) (i / 8) ||| (1 <<< (i % 8)) = bvl (l.take (i + 1)) (i / 8) := by
  unfold bvl
  rw [bv8_or _ (i % 8) (by omega) (by rw [getD_take, if_neg (by omega)])]
  refine bv8_congr fun j hj => ?_
  unfold bq
  by_cases h : j = i % 8
  · rw [if_pos h, getD_take, if_pos (by omega), show 8 * (i / 8) + j = i by omega, List.getD_eq_getElem?_getD, hp]
    rfl
  · rw [if_neg h]
    show (List.take i l).getD (8 * (i / 8) + j) false = _
    rw [getD_take, getD_take]
    by_cases h1 : 8 * (i / 8) + j < i
    · rw [if_pos h1, if_pos (by omega)]
    · rw [if_neg h1, if_neg (by omega)]
theorem bvl_lt (l : List Bool) (q : Nat) : bvl l q < 256 := bv8_lt _
theorem or8 {a b r : Nat} (ha : a < 256) (hb : b < 256) (h : a ||| b = r) : IntKind.u8.wrap (((BitVec.ofInt IntKind.u8.bits (a : Int) ||| BitVec.ofInt IntKind.u8.bits (b : Int)).toNat : Nat) : Int) = (r : Int) := by
  subst h
  have := or_nat (n := 8) ha hb
  rw [show IntKind.u8.bits = 8 from rfl, this]
  have h3 : a ||| b < 2 ^ 8 := Nat.or_lt_two_pow ha hb
  exact wu8 (by omega) (by omega)
theorem shl_lt {s : Int} (h0 : 0 ≤ s) (h : s < 8) : 1 <<< s.toNat < 256 := by
  obtain ⟨n, rfl⟩ := Int.eq_ofNat_of_zero_le h0
  have : ∀ n : Fin 8, 1 <<< ((n.val : Nat) : Int).toNat < 256 := by decide +kernel
  exact this ⟨n, by omega⟩
theorem take_all {l : List Bool} {i : Int} (h : (l.length : Int) ≤ i) : l.take i.toNat = l := List.take_of_length_le (by omega)
theorem rng_app (a b : Nat) (f g h : Nat → Nat) (h1 : ∀ q, q < a → h q = f q) (h2 : ∀ q, q < b → h (a + q) = g q) : rng a f ++ rng b g = rng (a + b) h := by
  unfold rng
  rw [List.range_add, List.map_append, List.map_map]
  congr 1
  · exact List.map_congr_left fun q hq => by rw [h1 q (List.mem_range.1 hq)]
  · refine List.map_congr_left fun q hq => ?_
    show ((g q : Nat) : Int) = (h (a + q) : Int)
    rw [h2 q (List.mem_range.1 hq)]
theorem bytesOf_split (l : List Bool) : rng 4 (hdr l.length) ++ rng (nb l) (bvl l) = bytesOf l := by
  refine rng_app _ _ _ _ _ (fun q hq => ?_) (fun q hq => ?_)
  · unfold g2; rw [if_pos hq]
  · unfold g2; rw [if_neg (by omega), List.take_length, show 4 + q - 4 = q by omega]
theorem rng_len' (N : Nat) (g : Nat → Nat) : (rng N g).length = N := by simp [rng]

def Byt (b : List Int) : Prop := ∀ n, n ∈ b → 0 ≤ n ∧ n < 256
theorem Byt.get {b : List Int} (h : Byt b) (k : Nat) : (b.getD k 0).toNat < 256 ∧ 0 ≤ b.getD k 0 := by
  rw [List.getD_eq_getElem?_getD]
  cases hq : b[k]? with
  | none => exact ⟨by decide, by decide⟩
  | some c =>
    have := h c (List.mem_of_getElem? hq)
    simp only [Option.getD_some]
    omega
theorem byt_rng {N : Nat} {g : Nat → Nat} (h : ∀ q, g q < 256) : Byt (rng N g) := by
  intro n hn
  obtain ⟨q, _, rfl⟩ := List.mem_map.1 hn
  have := h q
  omega
theorem g2_lt (l : List Bool) (i q : Nat) : g2 l i q < 256 := by
  unfold g2
  split
  · exact hdr_lt _ _
  · exact bvl_lt _ _
theorem byt_of (l : List Bool) : Byt (bytesOf l) := byt_rng (g2_lt l _)
def leN (b : List Int) : Nat → Nat
  | 0 => 0
  | k + 1 => leN b k + (b.getD k 0).toNat * 2 ^ (8 * k)
def le32 (b : List Int) : Nat := leN b 4
theorem leN_lt {b : List Int} (h : Byt b) : ∀ k, leN b k < 2 ^ (8 * k)
  | 0 => by simp [leN]
  | k + 1 => by
    have h1 := leN_lt h k
    have h2 := (h.get k).1
    have e : 2 ^ (8 * (k + 1)) = 2 ^ (8 * k) * 256 := by rw [Nat.mul_add, Nat.pow_add]
    rw [leN, e]
    have : (b.getD k 0).toNat * 2 ^ (8 * k) ≤ 255 * 2 ^ (8 * k) := Nat.mul_le_mul_right _ (by omega)
    rw [Nat.mul_comm (2 ^ (8 * k)) 256]
    omega
theorem or_le {b : List Int} {k : Int} {p : Int} (h : Byt b) (h0 : 0 ≤ k) (h4 : k < 4) (hp : b[k.toNat]? = some p) :
    IntKind.i64.wrap (((BitVec.ofInt IntKind.i64.bits (leN b k.toNat : Int) ||| BitVec.ofInt IntKind.i64.bits (p * 2 ^ (8 * k).toNat)).toNat : Nat) : Int) = (leN b (k + 1).toNat : Int) := by
  obtain ⟨n, rfl⟩ := Int.eq_ofNat_of_zero_le h0
  have e1 : (8 * (n : Int)).toNat = 8 * n := by omega
  have e2 : ((n : Int) + 1).toNat = n + 1 := by omega
  have e3 : ((n : Int)).toNat = n := by omega
  rw [e1, e2, e3]
  rw [e3] at hp
  have hp2 := h p (List.mem_of_getElem? hp)
  obtain ⟨c, rfl⟩ := Int.eq_ofNat_of_zero_le hp2.1
  have hg : b.getD n 0 = (c : Int) := by rw [List.getD_eq_getElem?_getD, hp]; rfl
  have hl := leN_lt h n
  have hl1 := leN_lt h (n + 1)
  have hn : n = 0 ∨ n = 1 ∨ n = 2 ∨ n = 3 := by omega
  have hc : c < 256 := by omega
  have ec : (c : Int) * 2 ^ (8 * n) = ((c * 2 ^ (8 * n) : Nat) : Int) := by rw [Int.natCast_mul, Int.natCast_pow]; rfl
  have hpow : 2 ^ (8 * (n + 1)) ≤ 2 ^ 32 := Nat.pow_le_pow_right (by omega) (by omega)
  have hpow0 : 2 ^ (8 * n) ≤ 2 ^ 32 := Nat.pow_le_pow_right (by omega) (by omega)
  have e4 : leN b (n + 1) = leN b n + c * 2 ^ (8 * n) := by rw [leN, hg]; rfl
  rw [ec, show IntKind.i64.bits = 64 from rfl, or_nat (by omega) (by omega)]
  have e5 : leN b n ||| c * 2 ^ (8 * n) = leN b (n + 1) := by
    rw [e4, Nat.or_comm, Nat.mul_comm c, ← Nat.two_pow_add_eq_or_of_lt hl, Nat.add_comm]
  rw [e5]
  exact w64 (by omega) (by omega)
def candAt (b : List Int) (k : Nat) : Bool := decide (((b.getD (4 + k / 8) 0).toNat >>> (k % 8)) &&& 1 = 1)
def cand (b : List Int) : List Bool := ra (le32 b) (candAt b)
def fromS (b : List Int) : Option (List Bool) := if b.length < 4 ∨ 1048576 < le32 b ∨ b.length ≠ 4 + (le32 b + 7) / 8 then none else if bytesOf (cand b) = b then some (cand b) else none
def fromR (b : List Int) : List Bool × Int := match fromS b with | some l => (l, 0) | none => ([], 10)
theorem fromR_none {b : List Int} (h : b.length < 4 ∨ 1048576 < le32 b ∨ b.length ≠ 4 + (le32 b + 7) / 8) : fromR b = ([], 10) := by unfold fromR fromS; rw [if_pos h]
theorem fromR_ne {b : List Int} (h : ¬ (bytesOf (cand b) = b)) : fromR b = ([], 10) := by
  unfold fromR fromS
  by_cases h1 : b.length < 4 ∨ 1048576 < le32 b ∨ b.length ≠ 4 + (le32 b + 7) / 8
  · rw [if_pos h1]
  · rw [if_neg h1, if_neg h]
theorem fromR_ok {b : List Int} (h : ¬ (b.length < 4 ∨ 1048576 < le32 b ∨ b.length ≠ 4 + (le32 b + 7) / 8)) (h2 : bytesOf (cand b) = b) : fromR b = (cand b, 0) := by unfold fromR fromS; rw [if_neg h, if_pos h2]
theorem bytesOf_len (l : List Bool) : (bytesOf l).length = 4 + nb l := rng_len' _ _
theorem bytesOf_get (l : List Bool) (k : Nat) (h : k < 4 + nb l) : (bytesOf l).getD k 0 = (g2 l l.length k : Int) := by
  unfold bytesOf rng
  simp [List.getD_eq_getElem?_getD, h]
theorem le32_of {l : List Bool} (h : l.length < 4294967296) : le32 (bytesOf l) = l.length := by
  have e : ∀ k, k < 4 → ((bytesOf l).getD k 0).toNat = hdr l.length k := by
    intro k hk
    rw [bytesOf_get l k (by omega)]
    unfold g2
    rw [if_pos hk]
    rfl
  unfold le32
  simp only [leN, e 0 (by omega), e 1 (by omega), e 2 (by omega), e 3 (by omega), hdr]
  omega
theorem cand_of {l : List Bool} (h : l.length < 4294967296) : cand (bytesOf l) = l := by
  unfold cand
  rw [le32_of h]
  apply List.ext_getElem?
  intro k
  rcases Nat.lt_or_ge k l.length with hk | hk
  · unfold ra
    rw [List.getElem?_map, List.getElem?_range hk, List.getElem?_eq_getElem hk]
    show some (candAt (bytesOf l) k) = _
    unfold candAt
    rw [bytesOf_get l _ (by unfold nb; omega)]
    unfold g2
    rw [if_neg (by omega), List.take_length, show 4 + k / 8 - 4 = k / 8 by omega]
    show some (decide ((bvl l (k / 8) >>> (k % 8)) &&& 1 = 1)) = _
    unfold bvl
    rw [bv8_bit _ _ (by omega), show 8 * (k / 8) + k % 8 = k by omega, List.getD_eq_getElem?_getD, List.getElem?_eq_getElem hk]
    cases l[k] <;> rfl
  · rw [List.getElem?_eq_none (by unfold ra; simpa using hk), List.getElem?_eq_none hk]
theorem fromR_of {l : List Bool} {b : List Int} (h : l.length ≤ 1048576) (hb : bytesOf l = b) : fromR b = (l, 0) := by
  subst hb
  have h1 := le32_of (l := l) (by omega)
  have h2 := cand_of (l := l) (by omega)
  rw [fromR_ok (by rw [bytesOf_len, h1]; unfold nb; omega) (by rw [h2]), h2]
theorem fromR_err {b : List Int} : (fromR b).2 = 0 ∨ (fromR b).2 = 10 := by
  unfold fromR
  split
  · exact .inl rfl
  · exact .inr rfl
theorem fromR_back {b : List Int} (h : (fromR b).2 = 0) : bytesOf (fromR b).1 = b ∧ (fromR b).1.length ≤ 1048576 := by
  unfold fromR at h ⊢
  cases hq : fromS b with
  | none => rw [hq] at h; simp at h
  | some l =>
    unfold fromS at hq
    split at hq
    · cases hq
    · split at hq
      · rename_i h1 h2
        cases hq
        exact ⟨h2, by show (cand b).length ≤ _; unfold cand ra; simp; omega⟩
      · cases hq
theorem fromR_short {b : List Int} : (fromR b).1.length ≤ 1048576 := by
  unfold fromR
  cases hq : fromS b with
  | none => exact Nat.zero_le _
  | some l =>
    unfold fromS at hq
    split at hq
    · cases hq
    · split at hq
      · rename_i h1 h2
        cases hq
        show (cand b).length ≤ _; unfold cand ra; simp; omega
      · cases hq
theorem shr8 {c s : Int} (hc : 0 ≤ c) (h0 : 0 ≤ s) (h : s < 8) : c.fdiv (2 ^ (min s.toNat IntKind.u8.bits)) = ((c.toNat >>> s.toNat : Nat) : Int) := by
  obtain ⟨n, rfl⟩ := Int.eq_ofNat_of_zero_le hc
  obtain ⟨k, rfl⟩ := Int.eq_ofNat_of_zero_le h0
  have e : min ((k : Int)).toNat IntKind.u8.bits = k := by
    show min _ 8 = _
    omega
  rw [e, Int.fdiv_eq_ediv_of_nonneg _ (Int.pow_nonneg (by omega)), Nat.shiftRight_eq_div_pow]
  simp
theorem and8 {a : Nat} (ha : a < 256) : IntKind.u8.wrap (((BitVec.ofInt IntKind.u8.bits (a : Int) &&& BitVec.ofInt IntKind.u8.bits 1).toNat : Nat) : Int) = ((a &&& 1 : Nat) : Int) := by
  have := and_nat (n := 8) (a := a) (b := 1) ha (by decide)
  rw [show IntKind.u8.bits = 8 from rfl]
  rw [show (1 : Int) = ((1 : Nat) : Int) from rfl, this]
  have h3 : a &&& 1 < 2 ^ 1 := Nat.and_lt_two_pow _ (by decide)
  exact wu8 (by omega) (by omega)
theorem shl8 {p k : Int} (hp : 0 ≤ p ∧ p < 256) (h0 : 0 ≤ k) (h : k < 4) : IntKind.i64.wrap (p * 2 ^ (min (8 * k).toNat IntKind.i64.bits)) = p * 2 ^ (8 * k).toNat := by
  obtain ⟨n, rfl⟩ := Int.eq_ofNat_of_zero_le h0
  have e : min (8 * (n : Int)).toNat IntKind.i64.bits = (8 * (n : Int)).toNat := by
    show min _ 64 = _
    omega
  rw [e]
  have hn : n = 0 ∨ n = 1 ∨ n = 2 ∨ n = 3 := by omega
  rcases hn with rfl | rfl | rfl | rfl <;> exact w64 (by simp; omega) (by simp; omega)

theorem qd8 (m : Nat) (h : m ≤ 4294967296) : IntKind.i64.wrap (((m : Int) + 8 - 1).tdiv 8) = (((m + 7) / 8 : Nat) : Int) := by
  rw [Int.tdiv_eq_ediv_of_nonneg (by omega)]
  have e : ((m : Int) + 8 - 1) / 8 = (((m + 7) / 8 : Nat) : Int) := by omega
  rw [e]
  exact w64 (by omega) (by omega)
theorem qd7 (m : Nat) (h : m ≤ 4294967296) : IntKind.i64.wrap (((m : Int) + 7).tdiv 8) = (((m + 7) / 8 : Nat) : Int) := by
  have := qd8 m h
  rwa [show (m : Int) + 8 - 1 = (m : Int) + 7 by omega] at this

theorem cnt_sum (l : List Bool) : cnt true l + cnt false l = (l.length : Int) := by
  unfold cnt
  have h : l.count true + l.count false = l.length := by
    induction l with
    | nil => rfl
    | cons a r ih => cases a <;> simp [List.count_cons] <;> omega
  omega
theorem xor8 {a b : Nat} (ha : a < 256) (hb : b < 256) : IntKind.u8.wrap (((BitVec.ofInt IntKind.u8.bits (a : Int) ^^^ BitVec.ofInt IntKind.u8.bits (b : Int)).toNat : Nat) : Int) = ((a ^^^ b : Nat) : Int) := by
  have := xor_nat (n := 8) ha hb
  rw [show IntKind.u8.bits = 8 from rfl, this]
  have h3 : a ^^^ b < 2 ^ 8 := Nat.xor_lt_two_pow ha hb
  exact wu8 (by omega) (by omega)
theorem xor_same {a b : Nat} : a ^^^ b = a ↔ b = 0 := by
  constructor
  · intro h
    have : a ^^^ (a ^^^ b) = a ^^^ a := by rw [h]
    rwa [← Nat.xor_assoc, Nat.xor_self, Nat.zero_xor] at this
  · rintro rfl
    exact Nat.xor_zero a
theorem Byt.take {b : List Int} (h : Byt b) (n : Nat) : Byt (b.take n) := fun x hx => h x (List.mem_of_mem_take hx)
theorem Byt.app {a b : List Int} (h : Byt a) (h2 : Byt b) : Byt (a ++ b) := fun x hx => (List.mem_append.1 hx).elim (h x) (h2 x)
theorem Byt.set {b : List Int} (h : Byt b) {j : Nat} {v : Int} (hv : 0 ≤ v ∧ v < 256) : Byt (b.set j v) := fun x hx => by
  rcases List.mem_or_eq_of_mem_set hx with h1 | rfl
  · exact h x h1
  · exact hv
theorem le32_pre {a b : List Int} (h : ∀ k, k < 4 → a.getD k 0 = b.getD k 0) : le32 a = le32 b := by
  unfold le32
  simp only [leN, h 0 (by omega), h 1 (by omega), h 2 (by omega), h 3 (by omega)]
theorem from_cut {l : List Bool} (h : l.length < 4294967296) {n : Nat} (hn : n < 4 + nb l) : fromR ((bytesOf l).take n) = ([], 10) := by
  refine fromR_none ?_
  have h1 := bytesOf_len l
  by_cases h4 : n < 4
  · left; simp; omega
  · right; right
    rw [le32_pre (b := bytesOf l) (fun k hk => by simp only [List.getD_eq_getElem?_getD, List.getElem?_take]; rw [if_pos (by omega)]), le32_of h]
    simp only [List.length_take, h1]
    unfold nb at *
    omega
theorem from_more {l : List Bool} (h : l.length < 4294967296) (z : Int) : fromR (bytesOf l ++ [z]) = ([], 10) := by
  refine fromR_none ?_
  have h1 := bytesOf_len l
  right; right
  rw [le32_pre (b := bytesOf l) (fun k hk => by simp only [List.getD_eq_getElem?_getD]; rw [List.getElem?_append_left (by omega)]), le32_of h]
  simp only [List.length_append, List.length_cons, List.length_nil, h1]
  unfold nb
  omega
theorem rng_get {N : Nat} {g : Nat → Nat} {j : Nat} (h : j < N) : (rng N g)[j]? = some (g j : Int) := by simp [rng, h]
theorem rng_set {N : Nat} {g g' : Nat → Nat} {j : Nat} {v : Int} (h1 : (g' j : Int) = v) (h : ∀ q, q < N → q ≠ j → g' q = g q) : (rng N g).set j v = rng N g' := by
  apply List.ext_getElem?
  intro q
  rw [List.getElem?_set]
  split
  · rename_i hq
    subst hq
    rw [rng_len']
    split
    · rename_i hq; rw [rng_get hq, h1]
    · rename_i hq; rw [List.getElem?_eq_none (by rw [rng_len']; omega)]
  · rename_i hq
    rcases Nat.lt_or_ge q N with hl | hl
    · rw [rng_get hl, rng_get hl, h q hl (fun e => hq e.symm)]
    · rw [List.getElem?_eq_none (by rw [rng_len']; omega), List.getElem?_eq_none (by rw [rng_len']; omega)]
theorem rep_rng {N : Nat} {g : Nat → Nat} (h : ∀ q, q < N → g q = 0) : List.replicate N (0 : Int) = rng N g := by
  rw [rng_congr h]
  apply List.ext_getElem?
  intro q
  rcases Nat.lt_or_ge q N with hl | hl
  · rw [rng_get hl]
    simp [hl]
  · rw [List.getElem?_eq_none (by simpa using hl), List.getElem?_eq_none (by rw [rng_len']; omega)]
end Go.Px
