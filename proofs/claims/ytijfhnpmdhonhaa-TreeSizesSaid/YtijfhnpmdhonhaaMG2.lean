/- What the functions that the laws of this seat reach compute: one contract each. -/
import Derived.Test.YtijfhnpmdhonhaaTy
import Derived.Test.YtijfhnpmdhonhaaShI
set_option linter.unusedVariables false
set_option linter.unusedSimpArgs false
set_option maxRecDepth 100000
namespace Go.Proofs.Ytijfhnpmdhonhaa
open Go Go.Sh
attribute [local irreducible] Go.Sh.T Go.Sh.RunT Go.Sh.RunD
def bS (b : Bool) : SV := .v (.bool b)
theorem gm {α : Type} {l : List α} {f : α → SV} {i : Int} (h0 : 0 ≤ i) (h1 : i < (l.length : Int)) : ∃ p, l[i.toNat]? = some p ∧ (l.map f)[i.toNat]? = some (f p) := by
  have h : i.toNat < l.length := by omega
  exact ⟨l[i.toNat], List.getElem?_eq_getElem h, by simp [List.getElem?_eq_getElem h]⟩
theorem eq_of_get {α : Type} {a b : List α} (hl : a.length = b.length) (h : ∀ (j : Nat) x y, a[j]? = some x → b[j]? = some y → x = y) : a = b := by
  apply List.ext_getElem hl
  intro i h1 h2
  exact h i _ _ (List.getElem?_eq_getElem h1) (List.getElem?_eq_getElem h2)
def cnt (x : Bool) (l : List Bool) : Int := (l.count x : Int)
theorem take_succ' {α : Type} {l : List α} {i : Int} {p : α} (h0 : 0 ≤ i) (h : l[i.toNat]? = some p) : l.take (i + 1).toNat = l.take i.toNat ++ [p] := by
  have e : (i + 1).toNat = i.toNat + 1 := by omega
  obtain ⟨h1, rfl⟩ := List.getElem?_eq_some_iff.1 h
  rw [e, List.take_succ_eq_append_getElem h1]
theorem cnt_take {x : Bool} {l : List Bool} {i : Int} {p : Bool} (h0 : 0 ≤ i) (h : l[i.toNat]? = some p) : cnt x (l.take (i + 1).toNat) = cnt x (l.take i.toNat) + (if p = x then 1 else 0) := by
  unfold cnt
  rw [take_succ' h0 h, List.count_append]
  cases p <;> cases x <;> simp
theorem bC (l : List Int) : ∀ y, y ∈ l.map b8 → y.cells.length = 1 := by
  intro y hy
  obtain ⟨p, _, rfl⟩ := List.mem_map.1 hy
  rfl
/-! Eight bits of a byte. -/
def bv8 (f : Nat → Bool) : Nat := (f 0).toNat + 2 * (f 1).toNat + 4 * (f 2).toNat + 8 * (f 3).toNat + 16 * (f 4).toNat + 32 * (f 5).toNat + 64 * (f 6).toNat + 128 * (f 7).toNat
theorem bv8_lt (f : Nat → Bool) : bv8 f < 256 := by
  unfold bv8
  have := Bool.toNat_le (f 0); have := Bool.toNat_le (f 1); have := Bool.toNat_le (f 2); have := Bool.toNat_le (f 3)
  have := Bool.toNat_le (f 4); have := Bool.toNat_le (f 5); have := Bool.toNat_le (f 6); have := Bool.toNat_le (f 7)
  omega
def bq (b : Nat → Bool) (j : Nat) : Nat → Bool := fun k => if k = j then true else b k
theorem bv8_or (f : Nat → Bool) (j : Nat) (hj : j < 8) (h : f j = false) : bv8 f ||| (1 <<< j) = bv8 (bq f j) := by
  have key : ∀ (a b c d e g h i : Bool) (j : Fin 8), (bv8 fun k => match k with | 0 => a | 1 => b | 2 => c | 3 => d | 4 => e | 5 => g | 6 => h | _ => i) ||| (1 <<< j.val) = (bv8 fun k => if k = j.val then true else match k with | 0 => a | 1 => b | 2 => c | 3 => d | 4 => e | 5 => g | 6 => h | _ => i) := by decide +kernel
  have := key (f 0) (f 1) (f 2) (f 3) (f 4) (f 5) (f 6) (f 7) ⟨j, hj⟩
  exact this
def sel (a b c d e g h i : Bool) (k : Nat) : Bool := match k with | 0 => a | 1 => b | 2 => c | 3 => d | 4 => e | 5 => g | 6 => h | _ => i
theorem bv8_bit (f : Nat → Bool) (j : Nat) (hj : j < 8) : (bv8 f >>> j) &&& 1 = (f j).toNat := by
  have key : ∀ (a b c d e g h i : Bool) (j : Fin 8), (bv8 (sel a b c d e g h i) >>> j.val) &&& 1 = (sel a b c d e g h i j.val).toNat := by decide +kernel
  have := key (f 0) (f 1) (f 2) (f 3) (f 4) (f 5) (f 6) (f 7) ⟨j, hj⟩
  have e : sel (f 0) (f 1) (f 2) (f 3) (f 4) (f 5) (f 6) (f 7) j = f j := by
    match j, hj with
    | 0, _ | 1, _ | 2, _ | 3, _ | 4, _ | 5, _ | 6, _ | 7, _ => rfl
  rw [← e]
  exact this
theorem bv8_congr {f g : Nat → Bool} (h : ∀ j, j < 8 → f j = g j) : bv8 f = bv8 g := by
  unfold bv8
  rw [h 0 (by omega), h 1 (by omega), h 2 (by omega), h 3 (by omega), h 4 (by omega), h 5 (by omega), h 6 (by omega), h 7 (by omega)]
def hdr (n k : Nat) : Nat := n / 2 ^ (8 * k) % 256
def bvl (l : List Bool) (q : Nat) : Nat := bv8 fun j => l.getD (8 * q + j) false
def rng (N : Nat) (g : Nat → Nat) : List Int := (List.range N).map fun k => (g k : Int)
def nb (l : List Bool) : Nat := (l.length + 7) / 8
def g2 (l : List Bool) (i : Nat) (k : Nat) : Nat := if k < 4 then hdr l.length k else bvl (l.take i) (k - 4)
def g1 (n : Nat) (i : Nat) (k : Nat) : Nat := if k < i then hdr n k else 0
def bytesOf (l : List Bool) : List Int := rng (4 + nb l) (g2 l l.length)
theorem rng_len (N : Nat) (g : Nat → Nat) : ((rng N g).map b8).length = N := by simp [rng]
theorem rng_get {N : Nat} {g : Nat → Nat} {j : Nat} (h : j < N) : ((rng N g).map b8)[j]? = some (b8 (g j)) := by simp [rng, h]
theorem rng_set {N : Nat} {g g' : Nat → Nat} {j : Nat} {v : Int} (h1 : (g' j : Int) = v) (h : ∀ q, q < N → q ≠ j → g' q = g q) : ((rng N g).map b8).set j (b8 v) = (rng N g').map b8 := by
  apply List.ext_getElem?
  intro q
  rw [List.getElem?_set]
  split
  · rename_i hq
    subst hq
    rw [rng_len]
    split
    · rename_i hq; rw [rng_get hq, h1]
    · rename_i hq; rw [List.getElem?_eq_none (by rw [rng_len]; omega)]
  · rename_i hq
    rcases Nat.lt_or_ge q N with hl | hl
    · rw [rng_get hl, rng_get hl, h q hl (fun e => hq e.symm)]
    · rw [List.getElem?_eq_none (by rw [rng_len]; omega), List.getElem?_eq_none (by rw [rng_len]; omega)]
theorem rng_congr {N : Nat} {g g' : Nat → Nat} (h : ∀ q, q < N → g q = g' q) : rng N g = rng N g' := by
  unfold rng
  refine List.map_congr_left fun q hq => ?_
  rw [h q (List.mem_range.1 hq)]
theorem rep_rng {N : Nat} {g : Nat → Nat} (h : ∀ q, q < N → g q = 0) : List.replicate N (SV.v (.int .u8 0)) = (rng N g).map b8 := by
  rw [rng_congr h]
  apply List.ext_getElem?
  intro q
  rcases Nat.lt_or_ge q N with hl | hl
  · rw [rng_get hl]
    simp [hl, b8]
  · rw [List.getElem?_eq_none (by simpa using hl), List.getElem?_eq_none (by rw [rng_len]; omega)]
theorem nbq {l : List Bool} (hb : l.length ≤ 4294967296) : IntKind.i64.wrap ((((l.map bS).length : Int) + 8 - 1).tdiv 8) = (nb l : Int) := by
  rw [List.length_map]
  have e : ((l.length : Int) + 8 - 1).tdiv 8 = (nb l : Int) := by
    rw [Int.tdiv_eq_ediv_of_nonneg (by omega)]
    unfold nb
    omega
  rw [e]
  have : nb l ≤ 4294967296 := by unfold nb; omega
  exact w64 (by omega) (by omega)
theorem nbq' {l : List Bool} (hb : l.length ≤ 4294967296) : IntKind.i64.wrap ((((l.map bS).length : Int) + 7).tdiv 8) = (nb l : Int) := by
  have := nbq hb
  rwa [show (((l.map bS).length : Int) + 8 - 1) = ((l.map bS).length : Int) + 7 by omega] at this
theorem hdr_w {l : List Bool} {k : Int} (h0 : 0 ≤ k) (h4 : k < 4) : IntKind.u8.wrap (((l.map bS).length : Int).fdiv (2 ^ (min (8 * k).toNat IntKind.i64.bits))) = (hdr l.length k.toNat : Int) := by
  rw [List.length_map, IntKind.wrap_u8]
  obtain ⟨n, rfl⟩ := Int.eq_ofNat_of_zero_le h0
  have e : min (8 * (n : Int)).toNat IntKind.i64.bits = 8 * n := by
    show min _ 64 = _
    omega
  rw [e, Int.fdiv_eq_ediv_of_nonneg _ (by exact Int.pow_nonneg (by omega))]
  unfold hdr
  simp
theorem hdr_lt (n k : Nat) : hdr n k < 256 := Nat.mod_lt _ (by omega)
theorem qd {i : Int} (h0 : 0 ≤ i) (h : i ≤ 4294967296) : IntKind.i64.wrap (i.tdiv 8) = i / 8 := by
  rw [Int.tdiv_eq_ediv_of_nonneg h0]
  exact w64 (by omega) (by omega)
theorem rd {i : Int} (h0 : 0 ≤ i) : i.tmod 8 = i % 8 := Int.tmod_eq_emod_of_nonneg h0
theorem shl1 {s : Int} (h0 : 0 ≤ s) (h : s < 8) : IntKind.u8.wrap (1 * 2 ^ (min s.toNat IntKind.u8.bits)) = ((1 <<< s.toNat : Nat) : Int) := by
  obtain ⟨n, rfl⟩ := Int.eq_ofNat_of_zero_le h0
  have h8 : n < 8 := by omega
  have : ∀ n : Fin 8, IntKind.u8.wrap (1 * 2 ^ (min ((n.val : Nat) : Int).toNat IntKind.u8.bits)) = ((1 <<< ((n.val : Nat) : Int).toNat : Nat) : Int) := by decide +kernel
  exact this ⟨n, h8⟩
theorem getD_take {l : List Bool} {i m : Nat} : (l.take i).getD m false = if m < i then l.getD m false else false := by
  simp only [List.getD_eq_getElem?_getD, List.getElem?_take]
  split <;> rfl
theorem bvl_same {l : List Bool} {i q : Nat} {p : Bool} (hp : l[i]? = some p) (h : p = false ∨ q ≠ i / 8) : bvl (l.take (i + 1)) q = bvl (l.take i) q := by
  refine bv8_congr fun j hj => ?_
  rw [getD_take, getD_take]
  by_cases h1 : 8 * q + j < i
  · rw [if_pos h1, if_pos (by omega)]
  · rw [if_neg h1]
    by_cases h2 : 8 * q + j < i + 1
    · have e : 8 * q + j = i := by omega
      rw [if_pos h2, e, List.getD_eq_getElem?_getD, hp]
      rcases h with rfl | h
      · rfl
      · exact absurd (by omega) h
    · rw [if_neg h2]
theorem bvl_or {l : List Bool} {i : Nat} (hp : l[i]? = some true) : bvl (l.take i) (i / 8) ||| (1 <<< (i % 8)) = bvl (l.take (i + 1)) (i / 8) := by
  unfold bvl
  rw [bv8_or _ (i % 8) (by omega) (by rw [getD_take, if_neg (by omega)])]
  refine bv8_congr fun j hj => ?_
  unfold bq
  by_cases h : j = i % 8
  · rw [if_pos h, getD_take, if_pos (by omega), show 8 * (i / 8) + j = i by omega, List.getD_eq_getElem?_getD, hp]
    rfl
  · rw [if_neg h]
    show (List.take i l).getD (8 * (i / 8) + j) false = _
    rw [getD_take, getD_take]
    by_cases h1 : 8 * (i / 8) + j < i
    · rw [if_pos h1, if_pos (by omega)]
    · rw [if_neg h1, if_neg (by omega)]
theorem bvl_lt (l : List Bool) (q : Nat) : bvl l q < 256 := bv8_lt _
theorem or8 {a b r : Nat} (ha : a < 256) (hb : b < 256) (h : a ||| b = r) : IntKind.u8.wrap (((BitVec.ofInt IntKind.u8.bits (a : Int) ||| BitVec.ofInt IntKind.u8.bits (b : Int)).toNat : Nat) : Int) = (r : Int) := by
  subst h
  have := or_nat (n := 8) ha hb
  rw [show IntKind.u8.bits = 8 from rfl, this]
  have h3 : a ||| b < 2 ^ 8 := Nat.or_lt_two_pow ha hb
  exact wu8 (by omega) (by omega)
theorem shl_lt {s : Int} (h0 : 0 ≤ s) (h : s < 8) : 1 <<< s.toNat < 256 := by
  obtain ⟨n, rfl⟩ := Int.eq_ofNat_of_zero_le h0
  have : ∀ n : Fin 8, 1 <<< ((n.val : Nat) : Int).toNat < 256 := by decide +kernel
  exact this ⟨n, by omega⟩
theorem take_all {l : List Bool} {i : Int} (h : (l.length : Int) ≤ i) : l.take i.toNat = l := List.take_of_length_le (by omega)
theorem rng_app (a b : Nat) (f g h : Nat → Nat) (h1 : ∀ q, q < a → h q = f q) (h2 : ∀ q, q < b → h (a + q) = g q) : rng a f ++ rng b g = rng (a + b) h := by
  unfold rng
  rw [List.range_add, List.map_append, List.map_map]
  congr 1
  · exact List.map_congr_left fun q hq => by rw [h1 q (List.mem_range.1 hq)]
  · refine List.map_congr_left fun q hq => ?_
    show ((g q : Nat) : Int) = (h (a + q) : Int)
    rw [h2 q (List.mem_range.1 hq)]
theorem bytesOf_split (l : List Bool) : rng 4 (hdr l.length) ++ rng (nb l) (bvl l) = bytesOf l := by
  refine rng_app _ _ _ _ _ (fun q hq => ?_) (fun q hq => ?_)
  · unfold g2; rw [if_pos hq]
  · unfold g2; rw [if_neg (by omega), List.take_length, show 4 + q - 4 = q by omega]
theorem hdr_c {l : List Bool} : IntKind.u8.wrap ((l.map bS).length : Int) = (hdr l.length 0 : Int) := by
  rw [List.length_map, IntKind.wrap_u8]
  unfold hdr
  simp
theorem rng_len' (N : Nat) (g : Nat → Nat) : (rng N g).length = N := by simp [rng]

def Byt (b : List Int) : Prop := ∀ n, n ∈ b → 0 ≤ n ∧ n < 256
theorem Byt.get {b : List Int} (h : Byt b) (k : Nat) : (b.getD k 0).toNat < 256 ∧ 0 ≤ b.getD k 0 := by
  rw [List.getD_eq_getElem?_getD]
  cases hq : b[k]? with
  | none => exact ⟨by decide, by decide⟩
  | some c =>
    have := h c (List.mem_of_getElem? hq)
    simp only [Option.getD_some]
    omega
theorem byt_rng {N : Nat} {g : Nat → Nat} (h : ∀ q, g q < 256) : Byt (rng N g) := by
  intro n hn
  obtain ⟨q, _, rfl⟩ := List.mem_map.1 hn
  have := h q
  omega
theorem g2_lt (l : List Bool) (i q : Nat) : g2 l i q < 256 := by
  unfold g2
  split
  · exact hdr_lt _ _
  · exact bvl_lt _ _
theorem byt_of (l : List Bool) : Byt (bytesOf l) := byt_rng (g2_lt l _)
def leN (b : List Int) : Nat → Nat
  | 0 => 0
  | k + 1 => leN b k + (b.getD k 0).toNat * 2 ^ (8 * k)
def le32 (b : List Int) : Nat := leN b 4
theorem leN_lt {b : List Int} (h : Byt b) : ∀ k, leN b k < 2 ^ (8 * k)
  | 0 => by simp [leN]
  | k + 1 => by
    have h1 := leN_lt h k
    have h2 := (h.get k).1
    have e : 2 ^ (8 * (k + 1)) = 2 ^ (8 * k) * 256 := by rw [Nat.mul_add, Nat.pow_add]
    rw [leN, e]
    have : (b.getD k 0).toNat * 2 ^ (8 * k) ≤ 255 * 2 ^ (8 * k) := Nat.mul_le_mul_right _ (by omega)
    rw [Nat.mul_comm (2 ^ (8 * k)) 256]
    omega
theorem or_le {b : List Int} {k : Int} {p : Int} (h : Byt b) (h0 : 0 ≤ k) (h4 : k < 4) (hp : b[k.toNat]? = some p) :
    IntKind.i64.wrap (((BitVec.ofInt IntKind.i64.bits (leN b k.toNat : Int) ||| BitVec.ofInt IntKind.i64.bits (p * 2 ^ (8 * k).toNat)).toNat : Nat) : Int) = (leN b (k + 1).toNat : Int) := by
  obtain ⟨n, rfl⟩ := Int.eq_ofNat_of_zero_le h0
  have e1 : (8 * (n : Int)).toNat = 8 * n := by omega
  have e2 : ((n : Int) + 1).toNat = n + 1 := by omega
  have e3 : ((n : Int)).toNat = n := by omega
  rw [e1, e2, e3]
  rw [e3] at hp
  have hp2 := h p (List.mem_of_getElem? hp)
  obtain ⟨c, rfl⟩ := Int.eq_ofNat_of_zero_le hp2.1
  have hg : b.getD n 0 = (c : Int) := by rw [List.getD_eq_getElem?_getD, hp]; rfl
  have hl := leN_lt h n
  have hl1 := leN_lt h (n + 1)
  have hn : n = 0 ∨ n = 1 ∨ n = 2 ∨ n = 3 := by omega
  have hc : c < 256 := by omega
  have ec : (c : Int) * 2 ^ (8 * n) = ((c * 2 ^ (8 * n) : Nat) : Int) := by rw [Int.natCast_mul, Int.natCast_pow]; rfl
  have hpow : 2 ^ (8 * (n + 1)) ≤ 2 ^ 32 := Nat.pow_le_pow_right (by omega) (by omega)
  have hpow0 : 2 ^ (8 * n) ≤ 2 ^ 32 := Nat.pow_le_pow_right (by omega) (by omega)
  have e4 : leN b (n + 1) = leN b n + c * 2 ^ (8 * n) := by rw [leN, hg]; rfl
  rw [ec, show IntKind.i64.bits = 64 from rfl, or_nat (by omega) (by omega)]
  have e5 : leN b n ||| c * 2 ^ (8 * n) = leN b (n + 1) := by
    rw [e4, Nat.or_comm, Nat.mul_comm c, ← Nat.two_pow_add_eq_or_of_lt hl, Nat.add_comm]
  rw [e5]
  exact w64 (by omega) (by omega)
def candAt (b : List Int) (k : Nat) : Bool := decide (((b.getD (4 + k / 8) 0).toNat >>> (k % 8)) &&& 1 = 1)
def cand (b : List Int) : List Bool := ra (le32 b) (candAt b)
def fromS (b : List Int) : Option (List Bool) := if b.length < 4 ∨ 1048576 < le32 b ∨ b.length ≠ 4 + (le32 b + 7) / 8 then none else if bytesOf (cand b) = b then some (cand b) else none
def fromR (b : List Int) : List Bool × Int := match fromS b with | some l => (l, 0) | none => ([], 10)
theorem fromR_none {b : List Int} (h : b.length < 4 ∨ 1048576 < le32 b ∨ b.length ≠ 4 + (le32 b + 7) / 8) : fromR b = ([], 10) := by unfold fromR fromS; rw [if_pos h]
theorem fromR_ne {b : List Int} (h : ¬ (bytesOf (cand b) = b)) : fromR b = ([], 10) := by
  unfold fromR fromS
  by_cases h1 : b.length < 4 ∨ 1048576 < le32 b ∨ b.length ≠ 4 + (le32 b + 7) / 8
  · rw [if_pos h1]
  · rw [if_neg h1, if_neg h]
theorem fromR_ok {b : List Int} (h : ¬ (b.length < 4 ∨ 1048576 < le32 b ∨ b.length ≠ 4 + (le32 b + 7) / 8)) (h2 : bytesOf (cand b) = b) : fromR b = (cand b, 0) := by unfold fromR fromS; rw [if_neg h, if_pos h2]
theorem bytesOf_len (l : List Bool) : (bytesOf l).length = 4 + nb l := rng_len' _ _
theorem bytesOf_get (l : List Bool) (k : Nat) (h : k < 4 + nb l) : (bytesOf l).getD k 0 = (g2 l l.length k : Int) := by
  unfold bytesOf rng
  simp [List.getD_eq_getElem?_getD, h]
theorem le32_of {l : List Bool} (h : l.length < 4294967296) : le32 (bytesOf l) = l.length := by
  have e : ∀ k, k < 4 → ((bytesOf l).getD k 0).toNat = hdr l.length k := by
    intro k hk
    rw [bytesOf_get l k (by omega)]
    unfold g2
    rw [if_pos hk]
    rfl
  unfold le32
  simp only [leN, e 0 (by omega), e 1 (by omega), e 2 (by omega), e 3 (by omega), hdr]
  omega
theorem cand_of {l : List Bool} (h : l.length < 4294967296) : cand (bytesOf l) = l := by
  unfold cand
  rw [le32_of h]
  apply List.ext_getElem?
  intro k
  rcases Nat.lt_or_ge k l.length with hk | hk
  · unfold ra
    rw [List.getElem?_map, List.getElem?_range hk, List.getElem?_eq_getElem hk]
    show some (candAt (bytesOf l) k) = _
    unfold candAt
    rw [bytesOf_get l _ (by unfold nb; omega)]
    unfold g2
    rw [if_neg (by omega), List.take_length, show 4 + k / 8 - 4 = k / 8 by omega]
    show some (decide ((bvl l (k / 8) >>> (k % 8)) &&& 1 = 1)) = _
    unfold bvl
    rw [bv8_bit _ _ (by omega), show 8 * (k / 8) + k % 8 = k by omega, List.getD_eq_getElem?_getD, List.getElem?_eq_getElem hk]
    cases l[k] <;> rfl
  · rw [List.getElem?_eq_none (by unfold ra; simpa using hk), List.getElem?_eq_none hk]
theorem fromR_of {l : List Bool} {b : List Int} (h : l.length ≤ 1048576) (hb : bytesOf l = b) : fromR b = (l, 0) := by
  subst hb
  have h1 := le32_of (l := l) (by omega)
  have h2 := cand_of (l := l) (by omega)
  rw [fromR_ok (by rw [bytesOf_len, h1]; unfold nb; omega) (by rw [h2]), h2]
theorem fromR_err {b : List Int} : (fromR b).2 = 0 ∨ (fromR b).2 = 10 := by
  unfold fromR
  split
  · exact .inl rfl
  · exact .inr rfl
theorem fromR_back {b : List Int} (h : (fromR b).2 = 0) : bytesOf (fromR b).1 = b ∧ (fromR b).1.length ≤ 1048576 := by
  unfold fromR at h ⊢
  cases hq : fromS b with
  | none => rw [hq] at h; simp at h
  | some l =>
    unfold fromS at hq
    split at hq
    · cases hq
    · split at hq
      · rename_i h1 h2
        cases hq
        exact ⟨h2, by show (cand b).length ≤ _; unfold cand ra; simp; omega⟩
      · cases hq
theorem fromR_short {b : List Int} : (fromR b).1.length ≤ 1048576 := by
  unfold fromR
  cases hq : fromS b with
  | none => exact Nat.zero_le _
  | some l =>
    unfold fromS at hq
    split at hq
    · cases hq
    · split at hq
      · rename_i h1 h2
        cases hq
        show (cand b).length ≤ _; unfold cand ra; simp; omega
      · cases hq
theorem shr8 {c s : Int} (hc : 0 ≤ c) (h0 : 0 ≤ s) (h : s < 8) : c.fdiv (2 ^ (min s.toNat IntKind.u8.bits)) = ((c.toNat >>> s.toNat : Nat) : Int) := by
  obtain ⟨n, rfl⟩ := Int.eq_ofNat_of_zero_le hc
  obtain ⟨k, rfl⟩ := Int.eq_ofNat_of_zero_le h0
  have e : min ((k : Int)).toNat IntKind.u8.bits = k := by
    show min _ 8 = _
    omega
  rw [e, Int.fdiv_eq_ediv_of_nonneg _ (Int.pow_nonneg (by omega)), Nat.shiftRight_eq_div_pow]
  simp
theorem and8 {a : Nat} (ha : a < 256) : IntKind.u8.wrap (((BitVec.ofInt IntKind.u8.bits (a : Int) &&& BitVec.ofInt IntKind.u8.bits 1).toNat : Nat) : Int) = ((a &&& 1 : Nat) : Int) := by
  have := and_nat (n := 8) (a := a) (b := 1) ha (by decide)
  rw [show IntKind.u8.bits = 8 from rfl]
  rw [show (1 : Int) = ((1 : Nat) : Int) from rfl, this]
  have h3 : a &&& 1 < 2 ^ 1 := Nat.and_lt_two_pow _ (by decide)
  exact wu8 (by omega) (by omega)
theorem shl8 {p k : Int} (hp : 0 ≤ p ∧ p < 256) (h0 : 0 ≤ k) (h : k < 4) : IntKind.i64.wrap (p * 2 ^ (min (8 * k).toNat IntKind.i64.bits)) = p * 2 ^ (8 * k).toNat := by
  obtain ⟨n, rfl⟩ := Int.eq_ofNat_of_zero_le h0
  have e : min (8 * (n : Int)).toNat IntKind.i64.bits = (8 * (n : Int)).toNat := by
    show min _ 64 = _
    omega
  rw [e]
  have hn : n = 0 ∨ n = 1 ∨ n = 2 ∨ n = 3 := by omega
  rcases hn with rfl | rfl | rfl | rfl <;> exact w64 (by simp; omega) (by simp; omega)

theorem qd8 (m : Nat) (h : m ≤ 4294967296) : IntKind.i64.wrap (((m : Int) + 8 - 1).tdiv 8) = (((m + 7) / 8 : Nat) : Int) := by
  rw [Int.tdiv_eq_ediv_of_nonneg (by omega)]
  have e : ((m : Int) + 8 - 1) / 8 = (((m + 7) / 8 : Nat) : Int) := by omega
  rw [e]
  exact w64 (by omega) (by omega)
theorem qd7 (m : Nat) (h : m ≤ 4294967296) : IntKind.i64.wrap (((m : Int) + 7).tdiv 8) = (((m + 7) / 8 : Nat) : Int) := by
  have := qd8 m h
  rwa [show (m : Int) + 8 - 1 = (m : Int) + 7 by omega] at this

theorem cnt_sum (l : List Bool) : cnt true l + cnt false l = (l.length : Int) := by
  unfold cnt
  have h : l.count true + l.count false = l.length := by
    induction l with
    | nil => rfl
    | cons a r ih => cases a <;> simp [List.count_cons] <;> omega
  omega
theorem xor8 {a b : Nat} (ha : a < 256) (hb : b < 256) : IntKind.u8.wrap (((BitVec.ofInt IntKind.u8.bits (a : Int) ^^^ BitVec.ofInt IntKind.u8.bits (b : Int)).toNat : Nat) : Int) = ((a ^^^ b : Nat) : Int) := by
  have := xor_nat (n := 8) ha hb
  rw [show IntKind.u8.bits = 8 from rfl, this]
  have h3 : a ^^^ b < 2 ^ 8 := Nat.xor_lt_two_pow ha hb
  exact wu8 (by omega) (by omega)
theorem xor_same {a b : Nat} : a ^^^ b = a ↔ b = 0 := by
  constructor
  · intro h
    have : a ^^^ (a ^^^ b) = a ^^^ a := by rw [h]
    rwa [← Nat.xor_assoc, Nat.xor_self, Nat.zero_xor] at this
  · rintro rfl
    exact Nat.xor_zero a
theorem Byt.take {b : List Int} (h : Byt b) (n : Nat) : Byt (b.take n) := fun x hx => h x (List.mem_of_mem_take hx)
theorem Byt.app {a b : List Int} (h : Byt a) (h2 : Byt b) : Byt (a ++ b) := fun x hx => (List.mem_append.1 hx).elim (h x) (h2 x)
theorem Byt.set {b : List Int} (h : Byt b) {j : Nat} {v : Int} (hv : 0 ≤ v ∧ v < 256) : Byt (b.set j v) := fun x hx => by
  rcases List.mem_or_eq_of_mem_set hx with h1 | rfl
  · exact h x h1
  · exact hv
theorem le32_pre {a b : List Int} (h : ∀ k, k < 4 → a.getD k 0 = b.getD k 0) : le32 a = le32 b := by
  unfold le32
  simp only [leN, h 0 (by omega), h 1 (by omega), h 2 (by omega), h 3 (by omega)]
theorem from_cut {l : List Bool} (h : l.length < 4294967296) {n : Nat} (hn : n < 4 + nb l) : fromR ((bytesOf l).take n) = ([], 10) := by
  refine fromR_none ?_
  have h1 := bytesOf_len l
  by_cases h4 : n < 4
  · left; simp; omega
  · right; right
    rw [le32_pre (b := bytesOf l) (fun k hk => by simp only [List.getD_eq_getElem?_getD, List.getElem?_take]; rw [if_pos (by omega)]), le32_of h]
    simp only [List.length_take, h1]
    unfold nb at *
    omega
theorem from_more {l : List Bool} (h : l.length < 4294967296) (z : Int) : fromR (bytesOf l ++ [z]) = ([], 10) := by
  refine fromR_none ?_
  have h1 := bytesOf_len l
  right; right
  rw [le32_pre (b := bytesOf l) (fun k hk => by simp only [List.getD_eq_getElem?_getD]; rw [List.getElem?_append_left (by omega)]), le32_of h]
  simp only [List.length_append, List.length_cons, List.length_nil, h1]
  unfold nb
  omega
theorem o5 : Opens Try.prog 5 1 (fun n : Int => [SV.v (.int .u8 n)]) (fun n => (Lit.int .u8 n).wf = true) := opens_int Try.underlying5 (by kernel_rfl)
theorem o3 : Opens Try.prog 3 1 (fun n : Int => [SV.v (.int .i64 n)]) (fun n => (Lit.int .i64 n).wf = true) := opens_int Try.underlying3 (by kernel_rfl)
theorem o4 : Opens Try.prog 4 1 (fun b : Bool => [SV.v (.bool b)]) (fun _ => True) := opens_bool Try.underlying4 (by kernel_rfl)
theorem o34 : Opens Try.prog 34 1 (fun l : List Bool => [SV.lst (l.map bS)]) (fun l => l.length ≤ maxLen ∧ ∀ x, x ∈ l → True) := opens_slice Try.underlying34 (by kernel_rfl) o4 (by decide) bS (fun _ => rfl)
theorem o35 : Opens Try.prog 35 1 (fun l : List Int => [SV.lst (l.map b8)]) (fun l => l.length ≤ maxLen ∧ ∀ x, x ∈ l → (Lit.int .u8 x).wf = true) := opens_slice Try.underlying35 (by kernel_rfl) o5 (by decide) b8 (fun _ => rfl)
theorem wf8 {x : Int} (h : (Lit.int .u8 x).wf = true) : 0 ≤ x ∧ x < 256 := by
  have : 0 ≤ x ∧ x ≤ 255 := by simpa [Lit.wf, IntKind.min, IntKind.max, IntKind.signed, IntKind.bits] using h
  omega
theorem um (a m : Int) (h : 0 < m) (h2 : m ≤ 4294967296) : ∃ x, IntKind.i64.wrap ((IntKind.u64.wrap a).tmod m) = x ∧ (IntKind.u64.wrap a).tmod m = x ∧ 0 ≤ x ∧ x < m := by
  have h0 : 0 ≤ IntKind.u64.wrap a := by
    have := IntKind.wrap_u64 (n := a)
    rw [this]; omega
  have h3 : 0 ≤ (IntKind.u64.wrap a).tmod m := Int.tmod_nonneg _ h0
  have h4 : (IntKind.u64.wrap a).tmod m < m := Int.tmod_lt_of_pos _ h
  exact ⟨_, w64 (by omega) (by omega), rfl, h3, h4⟩

theorem size_pc (l : List Bool) (hb : l.length ≤ 4294967296) : PC Try.prog false 24 [.lst (l.map bS)] (.tup [.v (.int .i64 (cnt true l)), .v (.int .i64 (cnt false l))]) := by
  have hlen : (l.map bS).length = l.length := List.length_map ..
  refine PC.of_T Try.func24 rfl rfl (n := 23) rfl rfl (.inr (flat_tup2 rfl rfl)) ?_
  intro base B w0
  refine T.seq ?_
  refine T.region ?_
  refine RunT.op0 rfl rfl rfl rfl .assign ?_
  refine RunT.op0 rfl rfl rfl rfl .assign ?_
  refine RunT.nil ?_
  refine T.seq ?_
  refine T.region ?_
  refine RunT.op0 rfl rfl rfl rfl .assign ?_
  refine RunT.op0 rfl rfl rfl rfl .assign ?_
  refine RunT.nil ?_
  refine T.seq ?_
  refine T.seq ?_
  refine T.region ?_
  refine RunT.op0 rfl rfl rfl rfl .move ?_
  refine RunT.op0 rfl rfl rfl rfl (by first | exact .lenL Try.underlying34 rfl rfl | exact .lenO Try.underlying34 rfl rfl | exact .lenV rfl (fun _ w => len_nil rfl Try.underlying34 w) rfl) ?_
  refine RunT.op0 rfl rfl rfl rfl .move ?_
  refine RunT.nil ?_
  refine T.block ?_
  refine T.loopS (fun n s => ∃ i : Int, ∃ y : Int, ∃ z : Int, n = ((l.length : Int) - i).toNat ∧ 0 ≤ i ∧ i ≤ (l.length : Int) ∧ y = cnt true (l.take i.toNat) ∧ z = cnt false (l.take i.toNat) ∧ y + z = i ∧ 0 ≤ y ∧ 0 ≤ z ∧ s = ⟨[(0, .lst (l.map bS)), (4, .v (.int .i64 y)), (5, .v (.int .i64 z)), (8, .lst (l.map bS)), (9, .v (.int .i64 ((l.map bS).length))), (10, .v (.int .i64 i))], [], 0, []⟩) (_) ⟨_, ⟨0, 0, 0, rfl, by omega, by omega, rfl, rfl, by omega, by omega, by omega, rfl⟩, (sub_of (fun b => b) rfl (by repeat (first | exact trivial | exact ⟨rfl, rfl⟩ | refine ⟨?_, ?_⟩)) (by repeat (first | exact trivial | exact ⟨rfl, rfl, trivial⟩ | exact ⟨rfl, rfl, rfl⟩ | refine ⟨?_, ?_⟩)) (fun _ _ _ _ _ _ h => h))⟩ ?_
  rintro n s ⟨i, y, z, rfl, h0, h1, hy, hn, h2, h3, h4, rfl⟩
  refine T.seq ?_
  refine T.region ?_
  refine RunT.op0 rfl rfl rfl rfl (.bin rfl rfl (fun w => b_lss w) rfl) ?_
  refine RunT.nil ?_
  refine T.seq ?_
  refine T.cond2 rfl (fun c11 => ?_) (fun c11 => ?_)
  · have c11p := c11; (try simp only [decide_eq_true_eq, decide_eq_false_iff_not, Bool.not_eq_true', Bool.not_eq_false', Bool.and_eq_true, Bool.or_eq_true] at c11p)
    refine T.skip ?_
    refine T.seq ?_
    refine T.block ?_
    refine T.seq ?_
    obtain ⟨p, hp, hx⟩ := gm (l := l) (f := bS) h0 (by omega)
    refine T.region ?_
    refine RunT.op0 rfl rfl rfl rfl (by first | exact .idxL sl34 rfl rfl (by omega) (by assumption) rfl | exact .idxO sl34 rfl rfl rfl (by omega) (by omega)) ?_
    refine RunT.op0 rfl rfl rfl rfl (by first | exact .loadP ty4 rfl rfl rfl | exact .loadR ty4 rfl rfl | exact .loadE ty4 rfl rfl (by assumption) rfl) ?_
    refine RunT.op0 rfl rfl rfl rfl .assign ?_
    refine RunT.nil ?_
    refine T.block ?_
    refine T.seq ?_
    refine T.region ?_
    refine RunT.op0 rfl rfl rfl rfl .move ?_
    refine RunT.op0 rfl rfl rfl rfl .assign ?_
    refine RunT.nil ?_
    refine T.cond2 rfl (fun c16 => ?_) (fun c16 => ?_)
    · have c16p := c16; (try simp only [decide_eq_true_eq, decide_eq_false_iff_not, Bool.not_eq_true', Bool.not_eq_false', Bool.and_eq_true, Bool.or_eq_true] at c16p)
      refine T.region ?_
      refine RunT.op0 rfl rfl rfl rfl .move ?_
      refine RunT.op0 rfl rfl rfl rfl (.bin rfl rfl (fun w => b_add' w (w64 (by omega) (by omega))) rfl) ?_
      refine RunT.op0 rfl rfl rfl rfl .assign ?_
      refine RunT.nil ?_
      refine T.region ?_
      refine RunT.op0 rfl rfl rfl rfl (.bin rfl rfl (fun w => b_add' w (w64 (by omega) (by omega))) rfl) ?_
      refine RunT.op0 rfl rfl rfl rfl .move ?_
      refine RunT.nil ?_
      subst c16
      first
        | exact ⟨((l.length : Int) - (i + 1)).toNat, by omega, _, ⟨i + 1, y + 1, z, rfl, by omega, by omega, by rw [cnt_take h0 hp, hy]; rfl, by rw [cnt_take h0 hp, hn]; simp, by omega, by omega, by omega, rfl⟩, (sub_of (fun b => b) rfl (by repeat (first | exact trivial | exact ⟨rfl, rfl⟩ | refine ⟨?_, ?_⟩)) (by repeat (first | exact trivial | exact ⟨rfl, rfl, trivial⟩ | exact ⟨rfl, rfl, rfl⟩ | refine ⟨?_, ?_⟩)) (fun _ _ _ _ _ _ h => h))⟩
        | exact ⟨((l.length : Int) - (i + 1)).toNat, by omega, _, ⟨i + 1, y, z + 1, rfl, by omega, by omega, by rw [cnt_take h0 hp, hy]; simp, by rw [cnt_take h0 hp, hn]; rfl, by omega, by omega, by omega, rfl⟩, (sub_of (fun b => b) rfl (by repeat (first | exact trivial | exact ⟨rfl, rfl⟩ | refine ⟨?_, ?_⟩)) (by repeat (first | exact trivial | exact ⟨rfl, rfl, trivial⟩ | exact ⟨rfl, rfl, rfl⟩ | refine ⟨?_, ?_⟩)) (fun _ _ _ _ _ _ h => h))⟩
    · have c16p := c16; (try simp only [decide_eq_true_eq, decide_eq_false_iff_not, Bool.not_eq_true', Bool.not_eq_false', Bool.and_eq_true, Bool.or_eq_true] at c16p)
      refine T.region ?_
      refine RunT.op0 rfl rfl rfl rfl .move ?_
      refine RunT.op0 rfl rfl rfl rfl (.bin rfl rfl (fun w => b_add' w (w64 (by omega) (by omega))) rfl) ?_
      refine RunT.op0 rfl rfl rfl rfl .assign ?_
      refine RunT.nil ?_
      refine T.region ?_
      refine RunT.op0 rfl rfl rfl rfl (.bin rfl rfl (fun w => b_add' w (w64 (by omega) (by omega))) rfl) ?_
      refine RunT.op0 rfl rfl rfl rfl .move ?_
      refine RunT.nil ?_
      subst c16
      first
        | exact ⟨((l.length : Int) - (i + 1)).toNat, by omega, _, ⟨i + 1, y + 1, z, rfl, by omega, by omega, by rw [cnt_take h0 hp, hy]; rfl, by rw [cnt_take h0 hp, hn]; simp, by omega, by omega, by omega, rfl⟩, (sub_of (fun b => b) rfl (by repeat (first | exact trivial | exact ⟨rfl, rfl⟩ | refine ⟨?_, ?_⟩)) (by repeat (first | exact trivial | exact ⟨rfl, rfl, trivial⟩ | exact ⟨rfl, rfl, rfl⟩ | refine ⟨?_, ?_⟩)) (fun _ _ _ _ _ _ h => h))⟩
        | exact ⟨((l.length : Int) - (i + 1)).toNat, by omega, _, ⟨i + 1, y, z + 1, rfl, by omega, by omega, by rw [cnt_take h0 hp, hy]; simp, by rw [cnt_take h0 hp, hn]; rfl, by omega, by omega, by omega, rfl⟩, (sub_of (fun b => b) rfl (by repeat (first | exact trivial | exact ⟨rfl, rfl⟩ | refine ⟨?_, ?_⟩)) (by repeat (first | exact trivial | exact ⟨rfl, rfl, trivial⟩ | exact ⟨rfl, rfl, rfl⟩ | refine ⟨?_, ?_⟩)) (fun _ _ _ _ _ _ h => h))⟩
  · have c11p := c11; (try simp only [decide_eq_true_eq, decide_eq_false_iff_not, Bool.not_eq_true', Bool.not_eq_false', Bool.and_eq_true, Bool.or_eq_true] at c11p)
    refine T.exit ?_
    refine T.seq ?_
    refine T.region ?_
    refine RunT.op0 rfl rfl rfl rfl .move ?_
    refine RunT.op0 rfl rfl rfl rfl .move ?_
    refine RunT.op0 rfl rfl rfl rfl .assign ?_
    refine RunT.op0 rfl rfl rfl rfl .assign ?_
    refine RunT.nil ?_
    refine T.ret ?_
    exact RetOk.vv rfl rfl rfl (by rw [hy, List.take_of_length_le (by omega)]) (by rw [hn, List.take_of_length_le (by omega)])

theorem cuts_pc (l : List Bool) (hb : l.length ≤ 4294967296) : PC Try.prog false 29 [.lst (l.map bS)] (.v (.int .i64 (cnt false l))) := by
  refine PC.of_T Try.func29 rfl rfl (n := 11) rfl rfl (.inr rfl) ?_
  intro base B w0
  refine T.seq ?_
  refine T.region ?_
  refine RunT.op0 rfl rfl rfl rfl .assign ?_
  refine RunT.nil ?_
  refine T.seq ?_
  refine T.region ?_
  refine RunT.op0 rfl rfl rfl rfl .move ?_
  refine RunT.call0 rfl rfl rfl rfl rfl rfl (size_pc l hb) (by repeat (first | exact trivial | refine ⟨?_, ?_⟩ | exact .one .v | exact .one .lst | exact .one .rptr | exact .one (.all rfl rfl) | exact .one .nil | exact .agg' (by repeat (first | exact trivial | refine ⟨?_, ?_⟩ | exact .v | exact .lst | exact .rptr | exact .all rfl rfl | exact .nil | exact .clo' trivial)) | exact .one (.clo' (by repeat (first | exact trivial | refine ⟨?_, ?_⟩ | exact .v | exact .lst | exact .rptr | exact .all rfl rfl | exact .nil | exact .clo' trivial))) | exact .one (.ptr' rfl (by repeat (first | exact trivial | refine ⟨?_, ?_⟩ | exact .v | exact .lst | exact .rptr | exact .all rfl rfl | exact .nil | exact .clo' trivial))) | exact .one (.own' rfl (by first | omega | (simp; done) | (simp; omega)) (by first | rw [List.drop_zero, List.take_of_length_le (by omega)] | (rw [List.drop_zero, List.take_of_length_le (by simp)]; simp; done) | (simp [List.take_append]; done) | (simp; omega))))) (Nat.le_of_ble_eq_true rfl) ?_
  refine RunT.op0 rfl rfl rfl rfl .move ?_
  refine RunT.op0 rfl rfl rfl rfl (.extract rfl rfl) ?_
  refine RunT.op0 rfl rfl rfl rfl (.extract rfl rfl) ?_
  refine RunT.op0 rfl rfl rfl rfl .assign ?_
  refine RunT.op0 rfl rfl rfl rfl .assign ?_
  refine RunT.nil ?_
  refine T.seq ?_
  refine T.region ?_
  refine RunT.op0 rfl rfl rfl rfl .move ?_
  refine RunT.op0 rfl rfl rfl rfl .assign ?_
  refine RunT.nil ?_
  refine T.ret ?_
  exact RetOk.v rfl rfl rfl

theorem beq_pc (a b : List Bool) (hb : a.length ≤ 4294967296) : PC Try.prog false 44 [.lst (a.map bS), .lst (b.map bS)] (.v (.bool (decide (a = b)))) := by
  have hla : (a.map bS).length = a.length := List.length_map ..
  have hlb : (b.map bS).length = b.length := List.length_map ..
  refine PC.of_T Try.func44 rfl rfl (n := 26) rfl rfl (.inr rfl) ?_
  intro base B w0
  refine T.seq ?_
  refine T.region ?_
  refine RunT.op0 rfl rfl rfl rfl .assign ?_
  refine RunT.nil ?_
  refine T.seq ?_
  refine T.seq ?_
  refine T.region ?_
  refine RunT.op0 rfl rfl rfl rfl .move ?_
  refine RunT.op0 rfl rfl rfl rfl (by first | exact .lenL Try.underlying34 rfl rfl | exact .lenO Try.underlying34 rfl rfl | exact .lenV rfl (fun _ w => len_nil rfl Try.underlying34 w) rfl) ?_
  refine RunT.op0 rfl rfl rfl rfl .move ?_
  refine RunT.op0 rfl rfl rfl rfl (by first | exact .lenL Try.underlying34 rfl rfl | exact .lenO Try.underlying34 rfl rfl | exact .lenV rfl (fun _ w => len_nil rfl Try.underlying34 w) rfl) ?_
  refine RunT.op0 rfl rfl rfl rfl (.bin rfl rfl (fun w => b_neq w) rfl) ?_
  refine RunT.nil ?_
  refine T.cond2 rfl (fun c10 => ?_) (fun c10 => ?_)
  · have c10p := c10; (try simp only [decide_eq_true_eq, decide_eq_false_iff_not, Bool.not_eq_true', Bool.not_eq_false', Bool.and_eq_true, Bool.or_eq_true] at c10p)
    refine T.seq ?_
    refine T.region ?_
    refine RunT.op0 rfl rfl rfl rfl .assign ?_
    refine RunT.nil ?_
    refine T.ret ?_
    exact RetOk.v rfl rfl (by have : a ≠ b := by { rintro rfl; simp at c10 }
                              simp [this])
  · have c10p := c10; (try simp only [decide_eq_true_eq, decide_eq_false_iff_not, Bool.not_eq_true', Bool.not_eq_false', Bool.and_eq_true, Bool.or_eq_true] at c10p)
    refine T.skip ?_
    refine T.seq ?_
    refine T.seq ?_
    refine T.region ?_
    refine RunT.op0 rfl rfl rfl rfl .move ?_
    refine RunT.op0 rfl rfl rfl rfl (by first | exact .lenL Try.underlying34 rfl rfl | exact .lenO Try.underlying34 rfl rfl | exact .lenV rfl (fun _ w => len_nil rfl Try.underlying34 w) rfl) ?_
    refine RunT.op0 rfl rfl rfl rfl .move ?_
    refine RunT.nil ?_
    refine T.block ?_
    refine T.loopS (fun n s => ∃ i : Int, n = ((a.length : Int) - i).toNat ∧ 0 ≤ i ∧ i ≤ (a.length : Int) ∧ (∀ (j : Nat) x y, (j : Int) < i → a[j]? = some x → b[j]? = some y → x = y) ∧ s = ⟨[(0, .lst (a.map bS)), (1, .lst (b.map bS)), (12, .v (.int .i64 ((a.map bS).length))), (13, .v (.int .i64 i))], [], 0, []⟩) (_) ⟨_, ⟨0, rfl, by omega, by omega, (by intro j q r hj; omega), rfl⟩, (sub_of (fun b => b) rfl (by repeat (first | exact trivial | exact ⟨rfl, rfl⟩ | refine ⟨?_, ?_⟩)) (by repeat (first | exact trivial | exact ⟨rfl, rfl, trivial⟩ | exact ⟨rfl, rfl, rfl⟩ | refine ⟨?_, ?_⟩)) (fun _ _ _ _ _ _ h => h))⟩ ?_
    rintro n s ⟨i, rfl, h0, h1, h2, rfl⟩
    refine T.seq ?_
    refine T.region ?_
    refine RunT.op0 rfl rfl rfl rfl (.bin rfl rfl (fun w => b_lss w) rfl) ?_
    refine RunT.nil ?_
    refine T.seq ?_
    refine T.cond2 rfl (fun c14 => ?_) (fun c14 => ?_)
    · have c14p := c14; (try simp only [decide_eq_true_eq, decide_eq_false_iff_not, Bool.not_eq_true', Bool.not_eq_false', Bool.and_eq_true, Bool.or_eq_true] at c14p)
      refine T.skip ?_
      refine T.seq ?_
      refine T.block ?_
      refine T.seq ?_
      refine T.region ?_
      refine RunT.op0 rfl rfl rfl rfl .move ?_
      refine RunT.op0 rfl rfl rfl rfl .assign ?_
      refine RunT.nil ?_
      refine T.seq ?_
      obtain ⟨p, hp, hpx⟩ := gm (l := a) (f := bS) h0 (by omega)
      obtain ⟨q, hq, hqx⟩ := gm (l := b) (f := bS) h0 (by omega)
      refine T.draw (wr := []) mixed rfl rfl ?_ rfl
      refine RunD.op0 rfl rfl rfl .move rfl ?_
      refine RunD.op0 rfl rfl rfl .move rfl ?_
      refine RunD.op0 rfl rfl rfl (by first | exact .idxL sl34 rfl rfl (by omega) (by assumption) rfl | exact .idxO sl34 rfl rfl rfl (by omega) (by omega)) rfl ?_
      refine RunD.op0 rfl rfl rfl (by first | exact .loadP ty4 rfl rfl rfl | exact .loadR ty4 rfl rfl | exact .loadE ty4 rfl rfl (by assumption) rfl) rfl ?_
      refine RunD.op0 rfl rfl rfl .move rfl ?_
      refine RunD.op0 rfl rfl rfl .move rfl ?_
      refine RunD.op0 rfl rfl rfl (by first | exact .idxL sl34 rfl rfl (by omega) (by assumption) rfl | exact .idxO sl34 rfl rfl rfl (by omega) (by omega)) rfl ?_
      refine RunD.op0 rfl rfl rfl (by first | exact .loadP ty4 rfl rfl rfl | exact .loadR ty4 rfl rfl | exact .loadE ty4 rfl rfl (by assumption) rfl) rfl ?_
      refine RunD.op0 rfl rfl rfl (.bin rfl rfl (fun w => b_neB w Try.underlying4) rfl) rfl ?_
      refine RunD.nil (by kernel_rfl) ⟨rfl, rfl, ?_⟩
      refine T.cond2 rfl (fun c24 => ?_) (fun c24 => ?_)
      · have c24p := c24; (try simp only [decide_eq_true_eq, decide_eq_false_iff_not, Bool.not_eq_true', Bool.not_eq_false', Bool.and_eq_true, Bool.or_eq_true] at c24p)
        refine T.seq ?_
        refine T.region ?_
        refine RunT.op0 rfl rfl rfl rfl .assign ?_
        refine RunT.nil ?_
        refine T.ret ?_
        exact RetOk.v rfl rfl (by have : a ≠ b := by { rintro rfl; rw [hp] at hq; cases hq; simp at c24 }
                                  simp [this])
      · have c24p := c24; (try simp only [decide_eq_true_eq, decide_eq_false_iff_not, Bool.not_eq_true', Bool.not_eq_false', Bool.and_eq_true, Bool.or_eq_true] at c24p)
        refine T.skip ?_
        refine T.region ?_
        refine RunT.op0 rfl rfl rfl rfl (.bin rfl rfl (fun w => b_add' w (w64 (by omega) (by omega))) rfl) ?_
        refine RunT.op0 rfl rfl rfl rfl .move ?_
        refine RunT.nil ?_
        refine ⟨((a.length : Int) - (i + 1)).toNat, by omega, _, ⟨i + 1, rfl, by omega, by omega, fun j x y hj hx hy => ?_, rfl⟩, (sub_of (fun b => b) rfl (by repeat (first | exact trivial | exact ⟨rfl, rfl⟩ | refine ⟨?_, ?_⟩)) (by repeat (first | exact trivial | exact ⟨rfl, rfl, trivial⟩ | exact ⟨rfl, rfl, rfl⟩ | refine ⟨?_, ?_⟩)) (fun _ _ _ _ _ _ h => h))⟩
        rcases Int.lt_or_le j i with hji | hji
        · exact h2 j x y hji hx hy
        · have : j = i.toNat := by omega
          subst this
          rw [hp] at hx
          rw [hq] at hy
          cases hx
          cases hy
          simpa using c24
    · have c14p := c14; (try simp only [decide_eq_true_eq, decide_eq_false_iff_not, Bool.not_eq_true', Bool.not_eq_false', Bool.and_eq_true, Bool.or_eq_true] at c14p)
      refine T.exit ?_
      refine T.seq ?_
      refine T.region ?_
      refine RunT.op0 rfl rfl rfl rfl .assign ?_
      refine RunT.nil ?_
      refine T.ret ?_
      exact RetOk.v rfl rfl (by have : a = b := eq_of_get (by omega) (fun j x y hx hy => h2 j x y (by have := lt_of_get hx; omega) hx hy)
                                simp [this])

theorem rsb_pc (a b : List Bool) (hb : a.length ≤ 4294967296) : PC Try.prog false 30 [.lst (a.map bS), .lst (b.map bS)] (.v (.bool (decide (a = b)))) := by
  have hla : (a.map bS).length = a.length := List.length_map ..
  have hlb : (b.map bS).length = b.length := List.length_map ..
  refine PC.of_T Try.func30 rfl rfl (n := 26) rfl rfl (.inr rfl) ?_
  intro base B w0
  refine T.seq ?_
  refine T.region ?_
  refine RunT.op0 rfl rfl rfl rfl .assign ?_
  refine RunT.nil ?_
  refine T.seq ?_
  refine T.seq ?_
  refine T.region ?_
  refine RunT.op0 rfl rfl rfl rfl .move ?_
  refine RunT.op0 rfl rfl rfl rfl (by first | exact .lenL Try.underlying34 rfl rfl | exact .lenO Try.underlying34 rfl rfl | exact .lenV rfl (fun _ w => len_nil rfl Try.underlying34 w) rfl) ?_
  refine RunT.op0 rfl rfl rfl rfl .move ?_
  refine RunT.op0 rfl rfl rfl rfl (by first | exact .lenL Try.underlying34 rfl rfl | exact .lenO Try.underlying34 rfl rfl | exact .lenV rfl (fun _ w => len_nil rfl Try.underlying34 w) rfl) ?_
  refine RunT.op0 rfl rfl rfl rfl (.bin rfl rfl (fun w => b_neq w) rfl) ?_
  refine RunT.nil ?_
  refine T.cond2 rfl (fun c10 => ?_) (fun c10 => ?_)
  · have c10p := c10; (try simp only [decide_eq_true_eq, decide_eq_false_iff_not, Bool.not_eq_true', Bool.not_eq_false', Bool.and_eq_true, Bool.or_eq_true] at c10p)
    refine T.seq ?_
    refine T.region ?_
    refine RunT.op0 rfl rfl rfl rfl .assign ?_
    refine RunT.nil ?_
    refine T.ret ?_
    exact RetOk.v rfl rfl (by have : a ≠ b := by { rintro rfl; simp at c10 }
                              simp [this])
  · have c10p := c10; (try simp only [decide_eq_true_eq, decide_eq_false_iff_not, Bool.not_eq_true', Bool.not_eq_false', Bool.and_eq_true, Bool.or_eq_true] at c10p)
    refine T.skip ?_
    refine T.seq ?_
    refine T.seq ?_
    refine T.region ?_
    refine RunT.op0 rfl rfl rfl rfl .assign ?_
    refine RunT.nil ?_
    refine T.block ?_
    refine T.loopS (fun n s => ∃ i : Int, n = ((a.length : Int) - i).toNat ∧ 0 ≤ i ∧ i ≤ (a.length : Int) ∧ (∀ (j : Nat) x y, (j : Int) < i → a[j]? = some x → b[j]? = some y → x = y) ∧ s = ⟨[(0, .lst (a.map bS)), (1, .lst (b.map bS)), (5, .v (.int .i64 i))], [], 0, []⟩) (_) ⟨_, ⟨0, rfl, by omega, by omega, (by intro j q r hj; omega), rfl⟩, (sub_of (fun b => b) rfl (by repeat (first | exact trivial | exact ⟨rfl, rfl⟩ | refine ⟨?_, ?_⟩)) (by repeat (first | exact trivial | exact ⟨rfl, rfl, trivial⟩ | exact ⟨rfl, rfl, rfl⟩ | refine ⟨?_, ?_⟩)) (fun _ _ _ _ _ _ h => h))⟩ ?_
    rintro n s ⟨i, rfl, h0, h1, h2, rfl⟩
    refine T.seq ?_
    refine T.seq ?_
    refine T.region ?_
    refine RunT.op0 rfl rfl rfl rfl .move ?_
    refine RunT.op0 rfl rfl rfl rfl .move ?_
    refine RunT.op0 rfl rfl rfl rfl (by first | exact .lenL Try.underlying34 rfl rfl | exact .lenO Try.underlying34 rfl rfl | exact .lenV rfl (fun _ w => len_nil rfl Try.underlying34 w) rfl) ?_
    refine RunT.op0 rfl rfl rfl rfl (.bin rfl rfl (fun w => b_lss w) rfl) ?_
    refine RunT.nil ?_
    refine T.cond2 rfl (fun c14 => ?_) (fun c14 => ?_)
    · have c14p := c14; (try simp only [decide_eq_true_eq, decide_eq_false_iff_not, Bool.not_eq_true', Bool.not_eq_false', Bool.and_eq_true, Bool.or_eq_true] at c14p)
      refine T.skip ?_
      refine T.seq ?_
      refine T.block ?_
      refine T.seq ?_
      obtain ⟨p, hp, hpx⟩ := gm (l := a) (f := bS) h0 (by omega)
      obtain ⟨q, hq, hqx⟩ := gm (l := b) (f := bS) h0 (by omega)
      refine T.draw (wr := []) mixed rfl rfl ?_ rfl
      refine RunD.op0 rfl rfl rfl .move rfl ?_
      refine RunD.op0 rfl rfl rfl .move rfl ?_
      refine RunD.op0 rfl rfl rfl (by first | exact .idxL sl34 rfl rfl (by omega) (by assumption) rfl | exact .idxO sl34 rfl rfl rfl (by omega) (by omega)) rfl ?_
      refine RunD.op0 rfl rfl rfl (by first | exact .loadP ty4 rfl rfl rfl | exact .loadR ty4 rfl rfl | exact .loadE ty4 rfl rfl (by assumption) rfl) rfl ?_
      refine RunD.op0 rfl rfl rfl .move rfl ?_
      refine RunD.op0 rfl rfl rfl .move rfl ?_
      refine RunD.op0 rfl rfl rfl (by first | exact .idxL sl34 rfl rfl (by omega) (by assumption) rfl | exact .idxO sl34 rfl rfl rfl (by omega) (by omega)) rfl ?_
      refine RunD.op0 rfl rfl rfl (by first | exact .loadP ty4 rfl rfl rfl | exact .loadR ty4 rfl rfl | exact .loadE ty4 rfl rfl (by assumption) rfl) rfl ?_
      refine RunD.op0 rfl rfl rfl (.bin rfl rfl (fun w => b_neB w Try.underlying4) rfl) rfl ?_
      refine RunD.nil (by kernel_rfl) ⟨rfl, rfl, ?_⟩
      refine T.cond2 rfl (fun c25 => ?_) (fun c25 => ?_)
      · have c25p := c25; (try simp only [decide_eq_true_eq, decide_eq_false_iff_not, Bool.not_eq_true', Bool.not_eq_false', Bool.and_eq_true, Bool.or_eq_true] at c25p)
        refine T.seq ?_
        refine T.region ?_
        refine RunT.op0 rfl rfl rfl rfl .assign ?_
        refine RunT.nil ?_
        refine T.ret ?_
        exact RetOk.v rfl rfl (by have : a ≠ b := by { rintro rfl; rw [hp] at hq; cases hq; simp at c25 }
                                  simp [this])
      · have c25p := c25; (try simp only [decide_eq_true_eq, decide_eq_false_iff_not, Bool.not_eq_true', Bool.not_eq_false', Bool.and_eq_true, Bool.or_eq_true] at c25p)
        refine T.skip ?_
        refine T.region ?_
        refine RunT.op0 rfl rfl rfl rfl .move ?_
        refine RunT.op0 rfl rfl rfl rfl (.bin rfl rfl (fun w => b_add' w (w64 (by omega) (by omega))) rfl) ?_
        refine RunT.op0 rfl rfl rfl rfl .assign ?_
        refine RunT.nil ?_
        refine ⟨((a.length : Int) - (i + 1)).toNat, by omega, _, ⟨i + 1, rfl, by omega, by omega, fun j x y hj hx hy => ?_, rfl⟩, (sub_of (fun b => b) rfl (by repeat (first | exact trivial | exact ⟨rfl, rfl⟩ | refine ⟨?_, ?_⟩)) (by repeat (first | exact trivial | exact ⟨rfl, rfl, trivial⟩ | exact ⟨rfl, rfl, rfl⟩ | refine ⟨?_, ?_⟩)) (fun _ _ _ _ _ _ h => h))⟩
        rcases Int.lt_or_le j i with hji | hji
        · exact h2 j x y hji hx hy
        · have : j = i.toNat := by omega
          subst this
          rw [hp] at hx
          rw [hq] at hy
          cases hx
          cases hy
          simpa using c25
    · have c14p := c14; (try simp only [decide_eq_true_eq, decide_eq_false_iff_not, Bool.not_eq_true', Bool.not_eq_false', Bool.and_eq_true, Bool.or_eq_true] at c14p)
      refine T.exit ?_
      refine T.seq ?_
      refine T.region ?_
      refine RunT.op0 rfl rfl rfl rfl .assign ?_
      refine RunT.nil ?_
      refine T.ret ?_
      exact RetOk.v rfl rfl (by have : a = b := eq_of_get (by omega) (fun j x y hx hy => h2 j x y (by have := lt_of_get hx; omega) hx hy)
                                simp [this])

theorem tsame_pc (a b : List Bool) (hb : a.length ≤ 4294967296) : PC Try.prog false 31 [.lst (a.map bS), .lst (b.map bS)] (.v (.bool (decide (a = b)))) := by
  refine PC.of_T Try.func31 rfl rfl (n := 8) rfl rfl (.inr rfl) ?_
  intro base B w0
  refine T.seq ?_
  refine T.region ?_
  refine RunT.op0 rfl rfl rfl rfl .assign ?_
  refine RunT.nil ?_
  refine T.seq ?_
  refine T.region ?_
  refine RunT.op0 rfl rfl rfl rfl .move ?_
  refine RunT.op0 rfl rfl rfl rfl .move ?_
  refine RunT.call0 rfl rfl rfl rfl rfl rfl (beq_pc a b hb) (by repeat (first | exact trivial | refine ⟨?_, ?_⟩ | exact .one .v | exact .one .lst | exact .one .rptr | exact .one (.all rfl rfl) | exact .one .nil | exact .agg' (by repeat (first | exact trivial | refine ⟨?_, ?_⟩ | exact .v | exact .lst | exact .rptr | exact .all rfl rfl | exact .nil | exact .clo' trivial)) | exact .one (.clo' (by repeat (first | exact trivial | refine ⟨?_, ?_⟩ | exact .v | exact .lst | exact .rptr | exact .all rfl rfl | exact .nil | exact .clo' trivial))) | exact .one (.ptr' rfl (by repeat (first | exact trivial | refine ⟨?_, ?_⟩ | exact .v | exact .lst | exact .rptr | exact .all rfl rfl | exact .nil | exact .clo' trivial))) | exact .one (.own' rfl (by first | omega | (simp; done) | (simp; omega)) (by first | rw [List.drop_zero, List.take_of_length_le (by omega)] | (rw [List.drop_zero, List.take_of_length_le (by simp)]; simp; done) | (simp [List.take_append]; done) | (simp; omega))))) (Nat.le_of_ble_eq_true rfl) ?_
  refine RunT.op0 rfl rfl rfl rfl .assign ?_
  refine RunT.nil ?_
  refine T.ret ?_
  exact RetOk.v rfl rfl rfl

theorem yeq_pc (a b : List Int) : PC Try.prog false 43 [.lst (a.map b8), .lst (b.map b8)] (.v (.bool (strOf a == strOf b))) := by
  refine PC.of_T Try.func43 rfl rfl (n := 10) rfl rfl (.inr rfl) ?_
  intro base B w0
  refine T.seq ?_
  refine T.region ?_
  refine RunT.op0 rfl rfl rfl rfl .assign ?_
  refine RunT.nil ?_
  refine T.seq ?_
  refine T.region ?_
  refine RunT.op0 rfl rfl rfl rfl .move ?_
  refine RunT.op0 rfl rfl rfl rfl (.toStr (d := false) Try.underlying35 Try.underlying5 Try.underlying9 rfl (.lst Try.underlying35 (bC _))) ?_
  refine RunT.op0 rfl rfl rfl rfl .move ?_
  refine RunT.op0 rfl rfl rfl rfl (.toStr (d := false) Try.underlying35 Try.underlying5 Try.underlying9 rfl (.lst Try.underlying35 (bC _))) ?_
  refine RunT.op0 rfl rfl rfl rfl (.bin rfl rfl (fun w => eqStr w) rfl) ?_
  refine RunT.op0 rfl rfl rfl rfl .assign ?_
  refine RunT.nil ?_
  refine T.ret ?_
  exact RetOk.v rfl rfl rfl

theorem bytes_pc (l : List Bool) (hb : l.length ≤ 4294967296) : PC Try.prog false 27 [.lst (l.map bS)] (.frs 1 ((bytesOf l).map b8)) := by
  have hlen : (l.map bS).length = l.length := List.length_map ..
  have hnb : nb l = (l.length + 7) / 8 := rfl
  refine PC.of_T Try.func27 rfl rfl (n := 50) rfl rfl (.inr (flat_frs (fun _ => flat_lone))) ?_
  intro base B w0
  refine T.seq ?_
  refine T.region ?_
  refine RunT.op0 rfl rfl rfl rfl .assign ?_
  refine RunT.nil ?_
  refine T.seq ?_
  refine T.region ?_
  refine RunT.op0 rfl rfl rfl rfl .move ?_
  refine RunT.op0 rfl rfl rfl rfl (by first | exact .lenL Try.underlying34 rfl rfl | exact .lenO Try.underlying34 rfl rfl | exact .lenV rfl (fun _ w => len_nil rfl Try.underlying34 w) rfl) ?_
  refine RunT.op0 rfl rfl rfl rfl (.bin rfl rfl (fun w => b_add' w (w64 (by omega) (by omega))) rfl) ?_
  refine RunT.op0 rfl rfl rfl rfl (.bin rfl rfl (fun w => b_sub' w (w64 (by omega) (by omega))) rfl) ?_
  refine RunT.op0 rfl rfl rfl rfl (.bin rfl rfl (fun w => b_quo' w (by decide) (nbq hb)) rfl) ?_
  refine RunT.op0 rfl rfl rfl rfl (.bin rfl rfl (fun w => b_add' w (w64 (by omega) (by omega))) rfl) ?_
  refine RunT.op0 rfl rfl rfl rfl (.mkslice (d := false) (n := 4 + nb l) sl35 rfl rfl (by omega) (by omega) in5.zero rfl rfl rfl (by omega)) ?_
  refine RunT.op0 rfl rfl rfl rfl .assign ?_
  refine RunT.nil ?_
  refine T.seq ?_
  refine T.seq ?_
  refine T.region ?_
  refine RunT.op0 rfl rfl rfl rfl .move ?_
  refine RunT.nil ?_
  refine T.block ?_
  refine T.loopS (fun n s => ∃ k : Int, n = (4 - k).toNat ∧ 0 ≤ k ∧ k ≤ 4 ∧ s = ⟨[(0, .lst (l.map bS)), (3, .own 0 0 (4 + nb l)), (14, .v (.int .i64 k))], [(0, some (.arr false 1 ((rng (4 + nb l) (g1 l.length k.toNat)).map b8)))], 8, []⟩) (_) ⟨_, ⟨0, rfl, by omega, by omega, rfl⟩, (sub_of (fun b => b) rfl (by repeat (first | exact trivial | exact ⟨rfl, rfl⟩ | refine ⟨?_, ?_⟩)) ⟨⟨rfl, congrArg (fun l => some (Blk.arr false 1 l)) (rep_rng (fun q hq => by unfold g1; rw [if_neg (by omega)])), trivial⟩, trivial⟩ (fun _ _ _ _ _ _ h => h))⟩ ?_
  rintro n s ⟨k, rfl, h0, h1, rfl⟩
  refine T.seq ?_
  refine T.region ?_
  refine RunT.op0 rfl rfl rfl rfl (.bin rfl rfl (fun w => b_lss w) rfl) ?_
  refine RunT.nil ?_
  refine T.seq ?_
  refine T.cond2 rfl (fun c15 => ?_) (fun c15 => ?_)
  · have c15p := c15; (try simp only [decide_eq_true_eq, decide_eq_false_iff_not, Bool.not_eq_true', Bool.not_eq_false', Bool.and_eq_true, Bool.or_eq_true] at c15p)
    refine T.skip ?_
    refine T.seq ?_
    refine T.block ?_
    refine T.seq ?_
    refine T.region ?_
    refine RunT.op0 rfl rfl rfl rfl .move ?_
    refine RunT.op0 rfl rfl rfl rfl .assign ?_
    refine RunT.nil ?_
    refine T.region ?_
    refine RunT.op0 rfl rfl rfl rfl .move ?_
    refine RunT.op0 rfl rfl rfl rfl .move ?_
    refine RunT.op0 rfl rfl rfl rfl .move ?_
    refine RunT.op0 rfl rfl rfl rfl (by first | exact .lenL Try.underlying34 rfl rfl | exact .lenO Try.underlying34 rfl rfl | exact .lenV rfl (fun _ w => len_nil rfl Try.underlying34 w) rfl) ?_
    refine RunT.op0 rfl rfl rfl rfl .move ?_
    refine RunT.op0 rfl rfl rfl rfl (.bin rfl rfl (fun w => b_mul' w (w64 (by omega) (by omega))) rfl) ?_
    refine RunT.op0 rfl rfl rfl rfl (.conv rfl (fun w => Go.Sh.c_int' w ⟨_, Try.underlying3⟩ Try.underlying31 (wu64 (by omega) (by omega))) rfl) ?_
    refine RunT.op0 rfl rfl rfl rfl (.bin rfl rfl (fun w => b_shr w (by omega)) rfl) ?_
    refine RunT.op0 rfl rfl rfl rfl (.conv rfl (fun w => Go.Sh.c_int' w ⟨_, Try.underlying3⟩ Try.underlying5 (hdr_w (by omega) (by omega))) rfl) ?_
    refine RunT.op0 rfl rfl rfl rfl (by first | exact .idxL sl35 rfl rfl (by omega) (by assumption) rfl | exact .idxO sl35 rfl rfl rfl (by omega) (by omega)) ?_
    refine RunT.op0 rfl rfl rfl rfl (.storeE ty5 rfl rfl rfl rfl rfl (rng_get (by omega)) (Nat.le_refl _) (fun _ => rfl)) ?_
    refine RunT.nil ?_
    refine T.region ?_
    refine RunT.op0 rfl rfl rfl rfl (.bin rfl rfl (fun w => b_add' w (w64 (by omega) (by omega))) rfl) ?_
    refine RunT.op0 rfl rfl rfl rfl .move ?_
    refine RunT.nil ?_
    refine ⟨(4 - (k + 1)).toNat, by omega, _, ⟨k + 1, rfl, by omega, by omega, rfl⟩, (sub_of (fun b => b) rfl (by repeat (first | exact trivial | exact ⟨rfl, rfl⟩ | refine ⟨?_, ?_⟩)) ⟨⟨rfl, congrArg (fun l => some (Blk.arr false 1 l)) (rng_set (by unfold g1; rw [if_pos (by omega), show 0 + k.toNat = k.toNat by omega]) (fun q hq hne => by unfold g1; by_cases h : q < k.toNat; (rw [if_pos h, if_pos (by omega)]); (rw [if_neg h, if_neg (by omega)]))), trivial⟩, trivial⟩ (fun _ _ _ _ _ _ h => h))⟩
  · have c15p := c15; (try simp only [decide_eq_true_eq, decide_eq_false_iff_not, Bool.not_eq_true', Bool.not_eq_false', Bool.and_eq_true, Bool.or_eq_true] at c15p)
    refine T.exit ?_
    refine T.seq ?_
    refine T.seq ?_
    refine T.region ?_
    refine RunT.op0 rfl rfl rfl rfl .move ?_
    refine RunT.op0 rfl rfl rfl rfl (by first | exact .lenL Try.underlying34 rfl rfl | exact .lenO Try.underlying34 rfl rfl | exact .lenV rfl (fun _ w => len_nil rfl Try.underlying34 w) rfl) ?_
    refine RunT.op0 rfl rfl rfl rfl .move ?_
    refine RunT.nil ?_
    refine T.block ?_
    refine T.loopS (fun n s => ∃ i : Int, n = ((l.length : Int) - i).toNat ∧ 0 ≤ i ∧ i ≤ (l.length : Int) ∧ s = ⟨[(0, .lst (l.map bS)), (3, .own 0 0 (4 + nb l)), (28, .lst (l.map bS)), (29, .v (.int .i64 ((l.map bS).length))), (30, .v (.int .i64 i))], [(0, some (.arr false 1 ((rng (4 + nb l) (g2 l i.toNat)).map b8)))], 8, []⟩) (_) ⟨_, ⟨0, rfl, by omega, by omega, rfl⟩, (sub_of (fun b => b) rfl (by repeat (first | exact trivial | exact ⟨rfl, rfl⟩ | refine ⟨?_, ?_⟩)) ⟨⟨rfl, congrArg (fun l => some (Blk.arr false 1 l)) (congrArg (List.map b8) (rng_congr fun q hq => by unfold g1 g2; by_cases h : q < 4; (rw [if_pos (by omega), if_pos h]); (rw [if_neg (by omega), if_neg h]; rfl))), trivial⟩, trivial⟩ (fun _ _ _ _ _ _ h => h))⟩ ?_
    rintro n s ⟨i, rfl, h0, h1, rfl⟩
    refine T.seq ?_
    refine T.region ?_
    refine RunT.op0 rfl rfl rfl rfl (.bin rfl rfl (fun w => b_lss w) rfl) ?_
    refine RunT.nil ?_
    refine T.seq ?_
    refine T.cond2 rfl (fun c31 => ?_) (fun c31 => ?_)
    · have c31p := c31; (try simp only [decide_eq_true_eq, decide_eq_false_iff_not, Bool.not_eq_true', Bool.not_eq_false', Bool.and_eq_true, Bool.or_eq_true] at c31p)
      refine T.skip ?_
      refine T.seq ?_
      refine T.block ?_
      refine T.seq ?_
      obtain ⟨p, hp, hx⟩ := gm (l := l) (f := bS) h0 (by omega)
      refine T.region ?_
      refine RunT.op0 rfl rfl rfl rfl .move ?_
      refine RunT.op0 rfl rfl rfl rfl (by first | exact .idxL sl34 rfl rfl (by omega) (by assumption) rfl | exact .idxO sl34 rfl rfl rfl (by omega) (by omega)) ?_
      refine RunT.op0 rfl rfl rfl rfl (by first | exact .loadP ty4 rfl rfl rfl | exact .loadR ty4 rfl rfl | exact .loadE ty4 rfl rfl (by assumption) rfl) ?_
      refine RunT.op0 rfl rfl rfl rfl .assign ?_
      refine RunT.op0 rfl rfl rfl rfl .assign ?_
      refine RunT.nil ?_
      refine T.seq ?_
      refine T.region ?_
      refine RunT.op0 rfl rfl rfl rfl .move ?_
      refine RunT.nil ?_
      refine T.cond2 rfl (fun c35 => ?_) (fun c35 => ?_)
      · have c35p := c35; (try simp only [decide_eq_true_eq, decide_eq_false_iff_not, Bool.not_eq_true', Bool.not_eq_false', Bool.and_eq_true, Bool.or_eq_true] at c35p)
        subst c35
        have hor : g2 l i.toNat (0 + (4 + i / 8).toNat) ||| (1 <<< (i % 8).toNat) = bvl (l.take (i.toNat + 1)) (i.toNat / 8) := by
          unfold g2
          rw [if_neg (by omega), show 0 + (4 + i / 8).toNat - 4 = i.toNat / 8 by omega, show (i % 8).toNat = i.toNat % 8 by omega]
          exact bvl_or hp
        refine T.region ?_
        refine RunT.op0 rfl rfl rfl rfl .move ?_
        refine RunT.op0 rfl rfl rfl rfl .move ?_
        refine RunT.op0 rfl rfl rfl rfl (.bin rfl rfl (fun w => b_quo' w (by decide) (qd (by omega) (by omega))) rfl) ?_
        refine RunT.op0 rfl rfl rfl rfl (.bin rfl rfl (fun w => b_add' w (w64 (by omega) (by omega))) rfl) ?_
        refine RunT.op0 rfl rfl rfl rfl (by first | exact .idxL sl35 rfl rfl (by omega) (by assumption) rfl | exact .idxO sl35 rfl rfl rfl (by omega) (by omega)) ?_
        refine RunT.op0 rfl rfl rfl rfl (.loadE ty5 rfl rfl (rng_get (by omega)) rfl) ?_
        refine RunT.op0 rfl rfl rfl rfl .move ?_
        refine RunT.op0 rfl rfl rfl rfl (.bin rfl rfl (fun w => b_rem' w (by decide) (rd (by omega))) rfl) ?_
        refine RunT.op0 rfl rfl rfl rfl (.conv rfl (fun w => Go.Sh.c_int' w ⟨_, Try.underlying3⟩ Try.underlying31 (wu64 (by omega) (by omega))) rfl) ?_
        refine RunT.op0 rfl rfl rfl rfl (.bin rfl rfl (fun w => b_shl' w (by omega) (shl1 (by omega) (by omega))) rfl) ?_
        refine RunT.op0 rfl rfl rfl rfl (.bin rfl rfl (fun w => b_or' w (or8 (r := bvl (l.take (i.toNat + 1)) (i.toNat / 8)) (by unfold g2; split; (exact hdr_lt _ _); (exact bvl_lt _ _)) (shl_lt (by omega) (by omega)) hor)) rfl) ?_
        refine RunT.op0 rfl rfl rfl rfl (by first | exact .idxL sl35 rfl rfl (by omega) (by assumption) rfl | exact .idxO sl35 rfl rfl rfl (by omega) (by omega)) ?_
        refine RunT.op0 rfl rfl rfl rfl (.storeE ty5 rfl rfl rfl rfl rfl (rng_get (by omega)) (Nat.le_refl _) (fun _ => rfl)) ?_
        refine RunT.nil ?_
        refine T.region ?_
        refine RunT.op0 rfl rfl rfl rfl (.bin rfl rfl (fun w => b_add' w (w64 (by omega) (by omega))) rfl) ?_
        refine RunT.op0 rfl rfl rfl rfl .move ?_
        refine RunT.nil ?_
        have ei : (i + 1).toNat = i.toNat + 1 := by omega
        first
          | (exact ⟨((l.length : Int) - (i + 1)).toNat, by omega, _, ⟨i + 1, rfl, by omega, by omega, rfl⟩, (sub_of (fun b => b) rfl (by repeat (first | exact trivial | exact ⟨rfl, rfl⟩ | refine ⟨?_, ?_⟩)) ⟨⟨rfl, congrArg (fun l => some (Blk.arr false 1 l)) (rng_set (by rw [ei]; unfold g2; rw [if_neg (by omega), show 0 + (4 + i / 8).toNat - 4 = i.toNat / 8 by omega]) (fun q hq hne => by rw [ei]; unfold g2; split; (rfl); (exact bvl_same hp (.inr (by omega))))), trivial⟩, trivial⟩ (fun _ _ _ _ _ _ h => h))⟩)
          | (subst c35; exact ⟨((l.length : Int) - (i + 1)).toNat, by omega, _, ⟨i + 1, rfl, by omega, by omega, rfl⟩, (sub_of (fun b => b) rfl (by repeat (first | exact trivial | exact ⟨rfl, rfl⟩ | refine ⟨?_, ?_⟩)) ⟨⟨rfl, congrArg (fun l => some (Blk.arr false 1 l)) (congrArg (List.map b8) (rng_congr fun q hq => by rw [ei]; unfold g2; split; (rfl); (exact (bvl_same hp (.inl rfl)).symm))), trivial⟩, trivial⟩ (fun _ _ _ _ _ _ h => h))⟩)
      · have c35p := c35; (try simp only [decide_eq_true_eq, decide_eq_false_iff_not, Bool.not_eq_true', Bool.not_eq_false', Bool.and_eq_true, Bool.or_eq_true] at c35p)
        refine T.skip ?_
        refine T.region ?_
        refine RunT.op0 rfl rfl rfl rfl (.bin rfl rfl (fun w => b_add' w (w64 (by omega) (by omega))) rfl) ?_
        refine RunT.op0 rfl rfl rfl rfl .move ?_
        refine RunT.nil ?_
        have ei : (i + 1).toNat = i.toNat + 1 := by omega
        first
          | (exact ⟨((l.length : Int) - (i + 1)).toNat, by omega, _, ⟨i + 1, rfl, by omega, by omega, rfl⟩, (sub_of (fun b => b) rfl (by repeat (first | exact trivial | exact ⟨rfl, rfl⟩ | refine ⟨?_, ?_⟩)) ⟨⟨rfl, congrArg (fun l => some (Blk.arr false 1 l)) (rng_set (by rw [ei]; unfold g2; rw [if_neg (by omega), show 0 + (4 + i / 8).toNat - 4 = i.toNat / 8 by omega]) (fun q hq hne => by rw [ei]; unfold g2; split; (rfl); (exact bvl_same hp (.inr (by omega))))), trivial⟩, trivial⟩ (fun _ _ _ _ _ _ h => h))⟩)
          | (subst c35; exact ⟨((l.length : Int) - (i + 1)).toNat, by omega, _, ⟨i + 1, rfl, by omega, by omega, rfl⟩, (sub_of (fun b => b) rfl (by repeat (first | exact trivial | exact ⟨rfl, rfl⟩ | refine ⟨?_, ?_⟩)) ⟨⟨rfl, congrArg (fun l => some (Blk.arr false 1 l)) (congrArg (List.map b8) (rng_congr fun q hq => by rw [ei]; unfold g2; split; (rfl); (exact (bvl_same hp (.inl rfl)).symm))), trivial⟩, trivial⟩ (fun _ _ _ _ _ _ h => h))⟩)
    · have c31p := c31; (try simp only [decide_eq_true_eq, decide_eq_false_iff_not, Bool.not_eq_true', Bool.not_eq_false', Bool.and_eq_true, Bool.or_eq_true] at c31p)
      refine T.exit ?_
      refine T.seq ?_
      refine T.region ?_
      refine RunT.op0 rfl rfl rfl rfl .move ?_
      refine RunT.op0 rfl rfl rfl rfl .assign ?_
      refine RunT.nil ?_
      refine T.ret ?_
      exact RetOk.frs rfl rfl rfl (rng_len _ _).symm (by unfold bytesOf; rw [show i.toNat = l.length by omega])

theorem rbytes_pc (l : List Bool) (hb : l.length ≤ 4294967296) : PC Try.prog false 28 [.lst (l.map bS)] (.v (.string (strOf (bytesOf l)))) := by
  have hlen : (l.map bS).length = l.length := List.length_map ..
  have hnb : nb l = (l.length + 7) / 8 := rfl
  refine PC.of_T Try.func28 rfl rfl (n := 53) rfl rfl (.inr rfl) ?_
  intro base B w0
  refine T.seq ?_
  refine T.region ?_
  refine RunT.op0 rfl rfl rfl rfl .assign ?_
  refine RunT.nil ?_
  refine T.seq ?_
  refine T.region ?_
  refine RunT.op0 rfl rfl rfl rfl .move ?_
  refine RunT.op0 rfl rfl rfl rfl (by first | exact .lenL Try.underlying34 rfl rfl | exact .lenO Try.underlying34 rfl rfl | exact .lenV rfl (fun _ w => len_nil rfl Try.underlying34 w) rfl) ?_
  refine RunT.op0 rfl rfl rfl rfl (.bin rfl rfl (fun w => b_add' w (w64 (by omega) (by omega))) rfl) ?_
  refine RunT.op0 rfl rfl rfl rfl (.bin rfl rfl (fun w => b_quo' w (by decide) (nbq' hb)) rfl) ?_
  refine RunT.op0 rfl rfl rfl rfl (.mkslice (d := false) (n := nb l) sl35 rfl rfl rfl rfl in5.zero rfl rfl rfl (by omega)) ?_
  refine RunT.op0 rfl rfl rfl rfl .assign ?_
  refine RunT.nil ?_
  refine T.seq ?_
  refine T.seq ?_
  refine T.region ?_
  refine RunT.op0 rfl rfl rfl rfl .assign ?_
  refine RunT.nil ?_
  refine T.block ?_
  refine T.loopS (fun n s => ∃ i : Int, n = ((l.length : Int) - i).toNat ∧ 0 ≤ i ∧ i ≤ (l.length : Int) ∧ s = ⟨[(0, .lst (l.map bS)), (3, .own 0 0 (nb l)), (4, .v (.int .i64 i))], [(0, some (.arr false 1 ((rng (nb l) (bvl (l.take i.toNat))).map b8)))], 8, []⟩) (_) ⟨_, ⟨0, rfl, by omega, by omega, rfl⟩, (sub_of (fun b => b) rfl (by repeat (first | exact trivial | exact ⟨rfl, rfl⟩ | refine ⟨?_, ?_⟩)) ⟨⟨rfl, congrArg (fun l => some (Blk.arr false 1 l)) (rep_rng (fun q hq => rfl)), trivial⟩, trivial⟩ (fun _ _ _ _ _ _ h => h))⟩ ?_
  rintro n s ⟨i, rfl, h0, h1, rfl⟩
  refine T.seq ?_
  refine T.seq ?_
  refine T.region ?_
  refine RunT.op0 rfl rfl rfl rfl .move ?_
  refine RunT.op0 rfl rfl rfl rfl .move ?_
  refine RunT.op0 rfl rfl rfl rfl (by first | exact .lenL Try.underlying34 rfl rfl | exact .lenO Try.underlying34 rfl rfl | exact .lenV rfl (fun _ w => len_nil rfl Try.underlying34 w) rfl) ?_
  refine RunT.op0 rfl rfl rfl rfl (.bin rfl rfl (fun w => b_lss w) rfl) ?_
  refine RunT.nil ?_
  refine T.cond2 rfl (fun c14 => ?_) (fun c14 => ?_)
  · have c14p := c14; (try simp only [decide_eq_true_eq, decide_eq_false_iff_not, Bool.not_eq_true', Bool.not_eq_false', Bool.and_eq_true, Bool.or_eq_true] at c14p)
    refine T.skip ?_
    refine T.seq ?_
    refine T.block ?_
    refine T.seq ?_
    obtain ⟨p, hp, hx⟩ := gm (l := l) (f := bS) h0 (by omega)
    refine T.region ?_
    refine RunT.op0 rfl rfl rfl rfl .move ?_
    refine RunT.op0 rfl rfl rfl rfl .move ?_
    refine RunT.op0 rfl rfl rfl rfl (by first | exact .idxL sl34 rfl rfl (by omega) (by assumption) rfl | exact .idxO sl34 rfl rfl rfl (by omega) (by omega)) ?_
    refine RunT.op0 rfl rfl rfl rfl (by first | exact .loadP ty4 rfl rfl rfl | exact .loadR ty4 rfl rfl | exact .loadE ty4 rfl rfl (by assumption) rfl) ?_
    refine RunT.nil ?_
    refine T.cond2 rfl (fun c20 => ?_) (fun c20 => ?_)
    · have c20p := c20; (try simp only [decide_eq_true_eq, decide_eq_false_iff_not, Bool.not_eq_true', Bool.not_eq_false', Bool.and_eq_true, Bool.or_eq_true] at c20p)
      subst c20
      have hor : bvl (l.take i.toNat) (0 + (i / 8).toNat) ||| (1 <<< (i % 8).toNat) = bvl (l.take (i.toNat + 1)) (i.toNat / 8) := by
        rw [show 0 + (i / 8).toNat = i.toNat / 8 by omega, show (i % 8).toNat = i.toNat % 8 by omega]
        exact bvl_or hp
      refine T.region ?_
      refine RunT.op0 rfl rfl rfl rfl .move ?_
      refine RunT.op0 rfl rfl rfl rfl .move ?_
      refine RunT.op0 rfl rfl rfl rfl (.bin rfl rfl (fun w => b_quo' w (by decide) (qd (by omega) (by omega))) rfl) ?_
      refine RunT.op0 rfl rfl rfl rfl .move ?_
      refine RunT.op0 rfl rfl rfl rfl .move ?_
      refine RunT.op0 rfl rfl rfl rfl (.bin rfl rfl (fun w => b_quo' w (by decide) (qd (by omega) (by omega))) rfl) ?_
      refine RunT.op0 rfl rfl rfl rfl (by first | exact .idxL sl35 rfl rfl (by omega) (by assumption) rfl | exact .idxO sl35 rfl rfl rfl (by omega) (by omega)) ?_
      refine RunT.op0 rfl rfl rfl rfl (.loadE ty5 rfl rfl (rng_get (by omega)) rfl) ?_
      refine RunT.op0 rfl rfl rfl rfl .move ?_
      refine RunT.op0 rfl rfl rfl rfl (.bin rfl rfl (fun w => b_rem' w (by decide) (rd (by omega))) rfl) ?_
      refine RunT.op0 rfl rfl rfl rfl (.conv rfl (fun w => Go.Sh.c_int' w ⟨_, Try.underlying3⟩ Try.underlying31 (wu64 (by omega) (by omega))) rfl) ?_
      refine RunT.op0 rfl rfl rfl rfl (.bin rfl rfl (fun w => b_shl' w (by omega) (shl1 (by omega) (by omega))) rfl) ?_
      refine RunT.op0 rfl rfl rfl rfl (.bin rfl rfl (fun w => b_or' w (or8 (r := bvl (l.take (i.toNat + 1)) (i.toNat / 8)) (bvl_lt _ _) (shl_lt (by omega) (by omega)) hor)) rfl) ?_
      refine RunT.op0 rfl rfl rfl rfl (by first | exact .idxL sl35 rfl rfl (by omega) (by assumption) rfl | exact .idxO sl35 rfl rfl rfl (by omega) (by omega)) ?_
      refine RunT.op0 rfl rfl rfl rfl (.storeE ty5 rfl rfl rfl rfl rfl (rng_get (by omega)) (Nat.le_refl _) (fun _ => rfl)) ?_
      refine RunT.nil ?_
      refine T.region ?_
      refine RunT.op0 rfl rfl rfl rfl .move ?_
      refine RunT.op0 rfl rfl rfl rfl (.bin rfl rfl (fun w => b_add' w (w64 (by omega) (by omega))) rfl) ?_
      refine RunT.op0 rfl rfl rfl rfl .assign ?_
      refine RunT.nil ?_
      have ei : (i + 1).toNat = i.toNat + 1 := by omega
      first
        | (exact ⟨((l.length : Int) - (i + 1)).toNat, by omega, _, ⟨i + 1, rfl, by omega, by omega, rfl⟩, (sub_of (fun b => b) rfl (by repeat (first | exact trivial | exact ⟨rfl, rfl⟩ | refine ⟨?_, ?_⟩)) ⟨⟨rfl, congrArg (fun l => some (Blk.arr false 1 l)) (rng_set (by rw [ei, show 0 + (i / 8).toNat = i.toNat / 8 by omega]) (fun q hq hne => by rw [ei]; exact bvl_same hp (.inr (by omega)))), trivial⟩, trivial⟩ (fun _ _ _ _ _ _ h => h))⟩)
        | (subst c20; exact ⟨((l.length : Int) - (i + 1)).toNat, by omega, _, ⟨i + 1, rfl, by omega, by omega, rfl⟩, (sub_of (fun b => b) rfl (by repeat (first | exact trivial | exact ⟨rfl, rfl⟩ | refine ⟨?_, ?_⟩)) ⟨⟨rfl, congrArg (fun l => some (Blk.arr false 1 l)) (congrArg (List.map b8) (rng_congr fun q hq => by rw [ei]; exact (bvl_same hp (.inl rfl)).symm)), trivial⟩, trivial⟩ (fun _ _ _ _ _ _ h => h))⟩)
    · have c20p := c20; (try simp only [decide_eq_true_eq, decide_eq_false_iff_not, Bool.not_eq_true', Bool.not_eq_false', Bool.and_eq_true, Bool.or_eq_true] at c20p)
      refine T.skip ?_
      refine T.region ?_
      refine RunT.op0 rfl rfl rfl rfl .move ?_
      refine RunT.op0 rfl rfl rfl rfl (.bin rfl rfl (fun w => b_add' w (w64 (by omega) (by omega))) rfl) ?_
      refine RunT.op0 rfl rfl rfl rfl .assign ?_
      refine RunT.nil ?_
      have ei : (i + 1).toNat = i.toNat + 1 := by omega
      first
        | (exact ⟨((l.length : Int) - (i + 1)).toNat, by omega, _, ⟨i + 1, rfl, by omega, by omega, rfl⟩, (sub_of (fun b => b) rfl (by repeat (first | exact trivial | exact ⟨rfl, rfl⟩ | refine ⟨?_, ?_⟩)) ⟨⟨rfl, congrArg (fun l => some (Blk.arr false 1 l)) (rng_set (by rw [ei, show 0 + (i / 8).toNat = i.toNat / 8 by omega]) (fun q hq hne => by rw [ei]; exact bvl_same hp (.inr (by omega)))), trivial⟩, trivial⟩ (fun _ _ _ _ _ _ h => h))⟩)
        | (subst c20; exact ⟨((l.length : Int) - (i + 1)).toNat, by omega, _, ⟨i + 1, rfl, by omega, by omega, rfl⟩, (sub_of (fun b => b) rfl (by repeat (first | exact trivial | exact ⟨rfl, rfl⟩ | refine ⟨?_, ?_⟩)) ⟨⟨rfl, congrArg (fun l => some (Blk.arr false 1 l)) (congrArg (List.map b8) (rng_congr fun q hq => by rw [ei]; exact (bvl_same hp (.inl rfl)).symm)), trivial⟩, trivial⟩ (fun _ _ _ _ _ _ h => h))⟩)
  · have c14p := c14; (try simp only [decide_eq_true_eq, decide_eq_false_iff_not, Bool.not_eq_true', Bool.not_eq_false', Bool.and_eq_true, Bool.or_eq_true] at c14p)
    refine T.exit ?_
    refine T.seq ?_
    refine T.region ?_
    refine RunT.op0 rfl rfl rfl rfl .move ?_
    refine RunT.op0 rfl rfl rfl rfl (by first | exact .lenL Try.underlying34 rfl rfl | exact .lenO Try.underlying34 rfl rfl | exact .lenV rfl (fun _ w => len_nil rfl Try.underlying34 w) rfl) ?_
    refine RunT.op0 rfl rfl rfl rfl .assign ?_
    refine RunT.nil ?_
    refine T.seq ?_
    refine T.region ?_
    refine RunT.op0 rfl rfl rfl rfl .move ?_
    refine RunT.op0 rfl rfl rfl rfl (.conv rfl (fun w => Go.Sh.c_int' w ⟨_, Try.underlying3⟩ Try.underlying5 (hdr_c)) rfl) ?_
    refine RunT.op0 rfl rfl rfl rfl .move ?_
    refine RunT.op0 rfl rfl rfl rfl (.bin rfl rfl (fun w => b_shr w (by decide)) rfl) ?_
    refine RunT.op0 rfl rfl rfl rfl (.conv rfl (fun w => Go.Sh.c_int' w ⟨_, Try.underlying3⟩ Try.underlying5 (hdr_w (k := 1) (by decide) (by decide))) rfl) ?_
    refine RunT.op0 rfl rfl rfl rfl .move ?_
    refine RunT.op0 rfl rfl rfl rfl (.bin rfl rfl (fun w => b_shr w (by decide)) rfl) ?_
    refine RunT.op0 rfl rfl rfl rfl (.conv rfl (fun w => Go.Sh.c_int' w ⟨_, Try.underlying3⟩ Try.underlying5 (hdr_w (k := 2) (by decide) (by decide))) rfl) ?_
    refine RunT.op0 rfl rfl rfl rfl .move ?_
    refine RunT.op0 rfl rfl rfl rfl (.bin rfl rfl (fun w => b_shr w (by decide)) rfl) ?_
    refine RunT.op0 rfl rfl rfl rfl (.conv rfl (fun w => Go.Sh.c_int' w ⟨_, Try.underlying3⟩ Try.underlying5 (hdr_w (k := 3) (by decide) (by decide))) rfl) ?_
    refine RunT.op0 rfl rfl rfl rfl (.bslice (d := false) sl35 rfl rfl (by intro y hy; rcases List.mem_cons.1 hy with rfl | hy; exact ⟨rfl, rfl, fun _ => rfl⟩; rcases List.mem_cons.1 hy with rfl | hy; exact ⟨rfl, rfl, fun _ => rfl⟩; rcases List.mem_cons.1 hy with rfl | hy; exact ⟨rfl, rfl, fun _ => rfl⟩; rcases List.mem_cons.1 hy with rfl | hy; exact ⟨rfl, rfl, fun _ => rfl⟩; exact (List.not_mem_nil hy).elim) (by decide)) ?_
    refine RunT.op0 rfl rfl rfl rfl (.toStr (d := false) (ns := rng 4 (hdr l.length)) Try.underlying35 Try.underlying5 Try.underlying9 rfl (.own Try.underlying35 rfl (Nat.le_refl _) rfl (fun h => by cases h))) ?_
    refine RunT.op0 rfl rfl rfl rfl .move ?_
    refine RunT.op0 rfl rfl rfl rfl (.toStr (d := false) (ns := rng (nb l) (bvl (l.take i.toNat))) Try.underlying35 Try.underlying5 Try.underlying9 rfl (.own Try.underlying35 rfl (by rw [rng_len]; omega) (by rw [List.drop_zero, List.take_of_length_le (by rw [rng_len]; omega)]) (fun h => by cases h))) ?_
    refine RunT.op0 rfl rfl rfl rfl (.bin rfl rfl (fun w => addStr (by rw [strOf_size, strOf_size, rng_len', rng_len']; omega) w) rfl) ?_
    refine RunT.op0 rfl rfl rfl rfl .assign ?_
    refine RunT.nil ?_
    refine T.ret ?_
    exact RetOk.v rfl rfl (by rw [← strOf_append, show l.take i.toNat = l from take_all (by omega), bytesOf_split])

theorem from_pc (b : List Int) (hB : Byt b) (hb : b.length ≤ 4294967296) : PC Try.prog false 25 [.lst (b.map b8)] (.tup [.frs 1 ((fromR b).1.map bS), .v (.int .i64 (fromR b).2)]) := by
  have hlen : (b.map b8).length = b.length := List.length_map ..
  refine PC.of_T Try.func25 rfl rfl (n := 71) rfl rfl (.inr (flat_tup2 (flat_frsC (fun _ => flat_lone)) rfl)) ?_
  intro base B w0
  refine T.seq ?_
  refine T.region ?_
  refine RunT.op0 rfl rfl rfl rfl .assign ?_
  refine RunT.op0 rfl rfl rfl rfl .assign ?_
  refine RunT.nil ?_
  refine T.seq ?_
  refine T.region ?_
  refine RunT.op0 rfl rfl rfl rfl .assign ?_
  refine RunT.nil ?_
  refine T.seq ?_
  refine T.seq ?_
  refine T.region ?_
  refine RunT.op0 rfl rfl rfl rfl .move ?_
  refine RunT.op0 rfl rfl rfl rfl (by first | exact .lenL Try.underlying35 rfl rfl | exact .lenO Try.underlying35 rfl rfl | exact .lenV rfl (fun _ w => len_nil rfl Try.underlying35 w) rfl) ?_
  refine RunT.op0 rfl rfl rfl rfl (.min rfl rfl) ?_
  refine RunT.op0 rfl rfl rfl rfl .move ?_
  refine RunT.nil ?_
  refine T.block ?_
  refine T.loopS (fun n s => ∃ k : Int, ∃ m : Nat, n = (4 - k).toNat ∧ 0 ≤ k ∧ k ≤ 4 ∧ k ≤ (b.length : Int) ∧ m = leN b k.toNat ∧ s = ⟨[(0, .lst (b.map b8)), (4, .v (.int .i64 (m : Int))), (10, .v (.int .i64 (if ((b.map b8).length : Int) < 4 then ((b.map b8).length : Int) else 4))), (11, .v (.int .i64 k))], [], 0, []⟩) (_) ⟨_, ⟨0, 0, rfl, by omega, by omega, by omega, rfl, rfl⟩, (sub_of (fun b => b) rfl (by repeat (first | exact trivial | exact ⟨rfl, rfl⟩ | refine ⟨?_, ?_⟩)) (by repeat (first | exact trivial | exact ⟨rfl, rfl, trivial⟩ | exact ⟨rfl, rfl, rfl⟩ | refine ⟨?_, ?_⟩)) (fun _ _ _ _ _ _ h => h))⟩ ?_
  rintro n s ⟨k, m, rfl, h0, h1, h5, hm, rfl⟩
  refine T.seq ?_
  refine T.region ?_
  refine RunT.op0 rfl rfl rfl rfl (.bin rfl rfl (fun w => b_lss w) rfl) ?_
  refine RunT.nil ?_
  refine T.seq ?_
  refine T.cond2 rfl (fun c12 => ?_) (fun c12 => ?_)
  · have c12p := c12; (try simp only [decide_eq_true_eq, decide_eq_false_iff_not, Bool.not_eq_true', Bool.not_eq_false', Bool.and_eq_true, Bool.or_eq_true] at c12p)
    refine T.skip ?_
    refine T.seq ?_
    refine T.block ?_
    refine T.seq ?_
    refine T.region ?_
    refine RunT.op0 rfl rfl rfl rfl .move ?_
    refine RunT.op0 rfl rfl rfl rfl .assign ?_
    refine RunT.nil ?_
    obtain ⟨p, hp, hx⟩ := gm (l := b) (f := b8) h0 (by omega)
    have hpb := hB p (List.mem_of_getElem? hp)
    refine T.region ?_
    refine RunT.op0 rfl rfl rfl rfl .move ?_
    refine RunT.op0 rfl rfl rfl rfl .move ?_
    refine RunT.op0 rfl rfl rfl rfl .move ?_
    refine RunT.op0 rfl rfl rfl rfl (by first | exact .idxL sl35 rfl rfl (by omega) (by assumption) rfl | exact .idxO sl35 rfl rfl rfl (by omega) (by omega)) ?_
    refine RunT.op0 rfl rfl rfl rfl (by first | exact .loadP ty5 rfl rfl rfl | exact .loadR ty5 rfl rfl | exact .loadE ty5 rfl rfl (by assumption) rfl) ?_
    refine RunT.op0 rfl rfl rfl rfl (.conv rfl (fun w => Go.Sh.c_int' w ⟨_, Try.underlying5⟩ Try.underlying3 (w64 (by omega) (by omega))) rfl) ?_
    refine RunT.op0 rfl rfl rfl rfl .move ?_
    refine RunT.op0 rfl rfl rfl rfl (.bin rfl rfl (fun w => b_mul' w (w64 (by omega) (by omega))) rfl) ?_
    refine RunT.op0 rfl rfl rfl rfl (.conv rfl (fun w => Go.Sh.c_int' w ⟨_, Try.underlying3⟩ Try.underlying31 (wu64 (by omega) (by omega))) rfl) ?_
    refine RunT.op0 rfl rfl rfl rfl (.bin rfl rfl (fun w => b_shl' w (by omega) (shl8 hpb h0 (by omega))) rfl) ?_
    refine RunT.op0 rfl rfl rfl rfl (.bin rfl rfl (fun w => b_or' (r := ((leN b (k + 1).toNat : Nat) : Int)) w (by rw [hm]; exact or_le hB h0 (by omega) hp)) rfl) ?_
    refine RunT.op0 rfl rfl rfl rfl .assign ?_
    refine RunT.nil ?_
    refine T.region ?_
    refine RunT.op0 rfl rfl rfl rfl (.bin rfl rfl (fun w => b_add' w (w64 (by omega) (by omega))) rfl) ?_
    refine RunT.op0 rfl rfl rfl rfl .move ?_
    refine RunT.nil ?_
    exact ⟨(4 - (k + 1)).toNat, by omega, _, ⟨k + 1, leN b (k + 1).toNat, rfl, by omega, by omega, by omega, rfl, rfl⟩, (sub_of (fun b => b) rfl (by repeat (first | exact trivial | exact ⟨rfl, rfl⟩ | refine ⟨?_, ?_⟩)) (by repeat (first | exact trivial | exact ⟨rfl, rfl, trivial⟩ | exact ⟨rfl, rfl, rfl⟩ | refine ⟨?_, ?_⟩)) (fun _ _ _ _ _ _ h => h))⟩
  · have c12p := c12; (try simp only [decide_eq_true_eq, decide_eq_false_iff_not, Bool.not_eq_true', Bool.not_eq_false', Bool.and_eq_true, Bool.or_eq_true] at c12p)
    refine T.exit ?_
    refine T.seq ?_
    refine T.block ?_
    refine T.seq ?_
    refine T.block ?_
    refine T.block ?_
    refine T.block ?_
    refine T.seq ?_
    refine T.seq ?_
    refine T.seq ?_
    have hm4 : 4 ≤ b.length → m = le32 b := fun h => by rw [hm, show k.toNat = 4 by omega]; rfl
    have hmlt : m < 4294967296 := by rw [hm]; have := leN_lt hB k.toNat; have := Nat.pow_le_pow_right (n := 2) (by omega) (show 8 * k.toNat ≤ 32 by omega); omega
    refine T.region ?_
    refine RunT.op0 rfl rfl rfl rfl .move ?_
    refine RunT.op0 rfl rfl rfl rfl (by first | exact .lenL Try.underlying35 rfl rfl | exact .lenO Try.underlying35 rfl rfl | exact .lenV rfl (fun _ w => len_nil rfl Try.underlying35 w) rfl) ?_
    refine RunT.op0 rfl rfl rfl rfl (.bin rfl rfl (fun w => b_lss w) rfl) ?_
    refine RunT.op0 rfl rfl rfl rfl .assign ?_
    refine RunT.nil ?_
    refine T.cond2 rfl (fun c26 => ?_) (fun c26 => ?_)
    · have c26p := c26; (try simp only [decide_eq_true_eq, decide_eq_false_iff_not, Bool.not_eq_true', Bool.not_eq_false', Bool.and_eq_true, Bool.or_eq_true] at c26p)
      refine T.exit ?_
      refine T.seq ?_
      refine T.seq ?_
      refine T.region ?_
      refine RunT.op0 rfl rfl rfl rfl .assign ?_
      refine RunT.op0 rfl rfl rfl rfl .assign ?_
      refine RunT.nil ?_
      refine T.ret ?_
      first
      | exact RetOk.nv rfl rfl rfl (by decide) (by rw [fromR_none (by omega)]; rfl) (by rw [fromR_none (by omega)])
      | exact RetOk.nv rfl rfl rfl (by decide) (by rw [fromR_ne hne]; rfl) (by rw [fromR_ne hne])
    · have c26p := c26; (try simp only [decide_eq_true_eq, decide_eq_false_iff_not, Bool.not_eq_true', Bool.not_eq_false', Bool.and_eq_true, Bool.or_eq_true] at c26p)
      refine T.skip ?_
      refine T.seq ?_
      refine T.seq ?_
      refine T.region ?_
      refine RunT.op0 rfl rfl rfl rfl .move ?_
      refine RunT.op0 rfl rfl rfl rfl (.bin rfl rfl (fun w => b_gtr w) rfl) ?_
      refine RunT.op0 rfl rfl rfl rfl .assign ?_
      refine RunT.nil ?_
      refine T.cond2 rfl (fun c30 => ?_) (fun c30 => ?_)
      · have c30p := c30; (try simp only [decide_eq_true_eq, decide_eq_false_iff_not, Bool.not_eq_true', Bool.not_eq_false', Bool.and_eq_true, Bool.or_eq_true] at c30p)
        refine T.exit ?_
        refine T.seq ?_
        refine T.seq ?_
        refine T.region ?_
        refine RunT.op0 rfl rfl rfl rfl .assign ?_
        refine RunT.op0 rfl rfl rfl rfl .assign ?_
        refine RunT.nil ?_
        refine T.ret ?_
        first
        | exact RetOk.nv rfl rfl rfl (by decide) (by rw [fromR_none (by omega)]; rfl) (by rw [fromR_none (by omega)])
        | exact RetOk.nv rfl rfl rfl (by decide) (by rw [fromR_ne hne]; rfl) (by rw [fromR_ne hne])
      · have c30p := c30; (try simp only [decide_eq_true_eq, decide_eq_false_iff_not, Bool.not_eq_true', Bool.not_eq_false', Bool.and_eq_true, Bool.or_eq_true] at c30p)
        refine T.skip ?_
        refine T.seq ?_
        refine T.region ?_
        refine RunT.op0 rfl rfl rfl rfl .move ?_
        refine RunT.op0 rfl rfl rfl rfl (by first | exact .lenL Try.underlying35 rfl rfl | exact .lenO Try.underlying35 rfl rfl | exact .lenV rfl (fun _ w => len_nil rfl Try.underlying35 w) rfl) ?_
        refine RunT.op0 rfl rfl rfl rfl .move ?_
        refine RunT.op0 rfl rfl rfl rfl (.bin rfl rfl (fun w => b_add' w (w64 (by omega) (by omega))) rfl) ?_
        refine RunT.op0 rfl rfl rfl rfl (.bin rfl rfl (fun w => b_sub' w (w64 (by omega) (by omega))) rfl) ?_
        refine RunT.op0 rfl rfl rfl rfl (.bin rfl rfl (fun w => b_quo' w (by decide) (qd8 m (by omega))) rfl) ?_
        refine RunT.op0 rfl rfl rfl rfl (.bin rfl rfl (fun w => b_add' w (w64 (by omega) (by omega))) rfl) ?_
        refine RunT.op0 rfl rfl rfl rfl (.bin rfl rfl (fun w => b_neq w) rfl) ?_
        refine RunT.op0 rfl rfl rfl rfl .assign ?_
        refine RunT.nil ?_
        refine T.cond2 rfl (fun c33 => ?_) (fun c33 => ?_)
        · have c33p := c33; (try simp only [decide_eq_true_eq, decide_eq_false_iff_not, Bool.not_eq_true', Bool.not_eq_false', Bool.and_eq_true, Bool.or_eq_true] at c33p)
          refine T.exit ?_
          refine T.seq ?_
          refine T.seq ?_
          refine T.region ?_
          refine RunT.op0 rfl rfl rfl rfl .assign ?_
          refine RunT.op0 rfl rfl rfl rfl .assign ?_
          refine RunT.nil ?_
          refine T.ret ?_
          first
          | exact RetOk.nv rfl rfl rfl (by decide) (by rw [fromR_none (by omega)]; rfl) (by rw [fromR_none (by omega)])
          | exact RetOk.nv rfl rfl rfl (by decide) (by rw [fromR_ne hne]; rfl) (by rw [fromR_ne hne])
        · have c33p := c33; (try simp only [decide_eq_true_eq, decide_eq_false_iff_not, Bool.not_eq_true', Bool.not_eq_false', Bool.and_eq_true, Bool.or_eq_true] at c33p)
          refine T.skip ?_
          refine T.exit ?_
          refine T.seq ?_
          refine T.region ?_
          refine RunT.op0 rfl rfl rfl rfl .move ?_
          refine RunT.op0 rfl rfl rfl rfl (.mkslice (d := false) (n := m) sl34 rfl rfl rfl rfl in4.zero rfl rfl rfl (by omega)) ?_
          refine RunT.op0 rfl rfl rfl rfl .assign ?_
          refine RunT.nil ?_
          refine T.seq ?_
          refine T.seq ?_
          refine T.region ?_
          refine RunT.op0 rfl rfl rfl rfl .move ?_
          refine RunT.op0 rfl rfl rfl rfl (by first | exact .lenL Try.underlying34 rfl rfl | exact .lenO Try.underlying34 rfl rfl | exact .lenV rfl (fun _ w => len_nil rfl Try.underlying34 w) rfl) ?_
          refine RunT.op0 rfl rfl rfl rfl .move ?_
          refine RunT.nil ?_
          refine T.block ?_
          refine T.loopS (fun n s => ∃ i : Int, n = ((m : Int) - i).toNat ∧ 0 ≤ i ∧ i ≤ (m : Int) ∧ s = ⟨[(0, .lst (b.map b8)), (6, .own 0 0 m), (45, .v (.int .i64 (m : Int))), (46, .v (.int .i64 i))], [(0, some (.arr false 1 ((ra m (fun q => if q < i.toNat then candAt b q else false)).map bS)))], 8, []⟩) (_) ⟨_, ⟨0, rfl, by omega, by omega, rfl⟩, (sub_of (fun b => b) rfl (by repeat (first | exact trivial | exact ⟨rfl, rfl⟩ | refine ⟨?_, ?_⟩)) ⟨⟨rfl, congrArg (fun l => some (Blk.arr false 1 l)) (ra_rep (fun q hq => rfl)), trivial⟩, trivial⟩ (fun _ _ _ _ _ _ h => h))⟩ ?_
          rintro n s ⟨i, rfl, h0, h1, rfl⟩
          refine T.seq ?_
          refine T.region ?_
          refine RunT.op0 rfl rfl rfl rfl (.bin rfl rfl (fun w => b_lss w) rfl) ?_
          refine RunT.nil ?_
          refine T.seq ?_
          refine T.cond2 rfl (fun c47 => ?_) (fun c47 => ?_)
          · have c47p := c47; (try simp only [decide_eq_true_eq, decide_eq_false_iff_not, Bool.not_eq_true', Bool.not_eq_false', Bool.and_eq_true, Bool.or_eq_true] at c47p)
            refine T.skip ?_
            refine T.seq ?_
            refine T.block ?_
            refine T.seq ?_
            refine T.region ?_
            refine RunT.op0 rfl rfl rfl rfl .move ?_
            refine RunT.op0 rfl rfl rfl rfl .assign ?_
            refine RunT.nil ?_
            obtain ⟨c, hc, hcx⟩ := gm (l := b) (f := b8) (i := 4 + i / 8) (by omega) (by omega)
            have hcb := hB c (List.mem_of_getElem? hc)
            have hcs : c.toNat >>> (i % 8).toNat < 256 := by rw [Nat.shiftRight_eq_div_pow]; exact Nat.lt_of_le_of_lt (Nat.div_le_self _ _) (by omega)
            have hcand : candAt b i.toNat = decide (((c.toNat >>> (i % 8).toNat &&& 1 : Nat) : Int) = 1) := by
              unfold candAt
              rw [show 4 + i.toNat / 8 = (4 + i / 8).toNat by omega, List.getD_eq_getElem?_getD, hc, show i.toNat % 8 = (i % 8).toNat by omega, decide_eq_decide]
              simp only [Option.getD_some]
              omega
            refine T.region ?_
            refine RunT.op0 rfl rfl rfl rfl .move ?_
            refine RunT.op0 rfl rfl rfl rfl .move ?_
            refine RunT.op0 rfl rfl rfl rfl .move ?_
            refine RunT.op0 rfl rfl rfl rfl .move ?_
            refine RunT.op0 rfl rfl rfl rfl (.bin rfl rfl (fun w => b_quo' w (by decide) (qd (by omega) (by omega))) rfl) ?_
            refine RunT.op0 rfl rfl rfl rfl (.bin rfl rfl (fun w => b_add' w (w64 (by omega) (by omega))) rfl) ?_
            refine RunT.op0 rfl rfl rfl rfl (by first | exact .idxL sl35 rfl rfl (by omega) (by assumption) rfl | exact .idxO sl35 rfl rfl rfl (by omega) (by omega)) ?_
            refine RunT.op0 rfl rfl rfl rfl (by first | exact .loadP ty5 rfl rfl rfl | exact .loadR ty5 rfl rfl | exact .loadE ty5 rfl rfl (by assumption) rfl) ?_
            refine RunT.op0 rfl rfl rfl rfl .move ?_
            refine RunT.op0 rfl rfl rfl rfl (.bin rfl rfl (fun w => b_rem' w (by decide) (rd (by omega))) rfl) ?_
            refine RunT.op0 rfl rfl rfl rfl (.conv rfl (fun w => Go.Sh.c_int' w ⟨_, Try.underlying3⟩ Try.underlying31 (wu64 (by omega) (by omega))) rfl) ?_
            refine RunT.op0 rfl rfl rfl rfl (.bin rfl rfl (fun w => b_shr' w (by omega) (shr8 hcb.1 (by omega) (by omega))) rfl) ?_
            refine RunT.op0 rfl rfl rfl rfl (.bin rfl rfl (fun w => b_and' w (and8 hcs)) rfl) ?_
            refine RunT.op0 rfl rfl rfl rfl (.bin rfl rfl (fun w => b_eql w) rfl) ?_
            refine RunT.op0 rfl rfl rfl rfl (by first | exact .idxL sl34 rfl rfl (by omega) (by assumption) rfl | exact .idxO sl34 rfl rfl rfl (by omega) (by omega)) ?_
            refine RunT.op0 rfl rfl rfl rfl (.storeE ty4 rfl rfl rfl rfl rfl (ra_get (by omega)) (Nat.le_refl _) (fun _ => rfl)) ?_
            refine RunT.nil ?_
            refine T.region ?_
            refine RunT.op0 rfl rfl rfl rfl (.bin rfl rfl (fun w => b_add' w (w64 (by omega) (by omega))) rfl) ?_
            refine RunT.op0 rfl rfl rfl rfl .move ?_
            refine RunT.nil ?_
            have ei : (i + 1).toNat = i.toNat + 1 := by omega
            exact ⟨((m : Int) - (i + 1)).toNat, by omega, _, ⟨i + 1, rfl, by omega, by omega, rfl⟩, (sub_of (fun b => b) rfl (by repeat (first | exact trivial | exact ⟨rfl, rfl⟩ | refine ⟨?_, ?_⟩)) ⟨⟨rfl, congrArg (fun l => some (Blk.arr false 1 l)) (ra_set (by show bS (if 0 + i.toNat < (i + 1).toNat then candAt b (0 + i.toNat) else false) = _; rw [if_pos (by omega), show 0 + i.toNat = i.toNat by omega, hcand]; rfl) (fun q hq hne => by show (if q < (i + 1).toNat then candAt b q else false) = if q < i.toNat then candAt b q else false; by_cases h : q < i.toNat; (rw [if_pos h, if_pos (by omega)]); (rw [if_neg h, if_neg (by omega)]))), trivial⟩, trivial⟩ (fun _ _ _ _ _ _ h => h))⟩
          · have c47p := c47; (try simp only [decide_eq_true_eq, decide_eq_false_iff_not, Bool.not_eq_true', Bool.not_eq_false', Bool.and_eq_true, Bool.or_eq_true] at c47p)
            refine T.exit ?_
            refine T.seq ?_
            refine T.seq ?_
            have hral : ((ra m (fun q => if q < i.toNat then candAt b q else false)).map bS).length = m := ra_len _ _
            have hX : ra m (fun q => if q < i.toNat then candAt b q else false) = cand b := by
              unfold cand
              rw [← hm4 (by omega)]
              exact ra_congr fun q hq => by show (if q < i.toNat then candAt b q else false) = _; rw [if_pos (by omega)]
            refine T.region ?_
            refine RunT.op0 rfl rfl rfl rfl .move ?_
            refine RunT.call0 rfl rfl rfl rfl rfl rfl (bytes_pc (ra m (fun q => if q < i.toNat then candAt b q else false)) (by simp [ra]; omega)) (by repeat (first | exact trivial | refine ⟨?_, ?_⟩ | exact .one .v | exact .one .lst | exact .one .rptr | exact .one (.all rfl rfl) | exact .one .nil | exact .agg' (by repeat (first | exact trivial | refine ⟨?_, ?_⟩ | exact .v | exact .lst | exact .rptr | exact .all rfl rfl | exact .nil | exact .clo' trivial)) | exact .one (.clo' (by repeat (first | exact trivial | refine ⟨?_, ?_⟩ | exact .v | exact .lst | exact .rptr | exact .all rfl rfl | exact .nil | exact .clo' trivial))) | exact .one (.ptr' rfl (by repeat (first | exact trivial | refine ⟨?_, ?_⟩ | exact .v | exact .lst | exact .rptr | exact .all rfl rfl | exact .nil | exact .clo' trivial))) | exact .one (.own' rfl (by first | omega | (simp; done) | (simp; omega)) (by first | rw [List.drop_zero, List.take_of_length_le (by omega)] | (rw [List.drop_zero, List.take_of_length_le (by simp)]; simp; done) | (simp [List.take_append]; done) | (simp; omega))))) (Nat.le_of_ble_eq_true rfl) ?_
            refine RunT.op0 rfl rfl rfl rfl .move ?_
            refine RunT.call0 rfl rfl rfl rfl rfl rfl (yeq_pc _ b) (by repeat (first | exact trivial | refine ⟨?_, ?_⟩ | exact .one .v | exact .one .lst | exact .one .rptr | exact .one (.all rfl rfl) | exact .one .nil | exact .agg' (by repeat (first | exact trivial | refine ⟨?_, ?_⟩ | exact .v | exact .lst | exact .rptr | exact .all rfl rfl | exact .nil | exact .clo' trivial)) | exact .one (.clo' (by repeat (first | exact trivial | refine ⟨?_, ?_⟩ | exact .v | exact .lst | exact .rptr | exact .all rfl rfl | exact .nil | exact .clo' trivial))) | exact .one (.ptr' rfl (by repeat (first | exact trivial | refine ⟨?_, ?_⟩ | exact .v | exact .lst | exact .rptr | exact .all rfl rfl | exact .nil | exact .clo' trivial))) | exact .one (.own' rfl (by first | omega | (simp; done) | (simp; omega)) (by first | rw [List.drop_zero, List.take_of_length_le (by omega)] | (rw [List.drop_zero, List.take_of_length_le (by simp)]; simp; done) | (simp [List.take_append]; done) | (simp; omega))))) (Nat.le_of_ble_eq_true rfl) ?_
            refine RunT.op0 rfl rfl rfl rfl (.un rfl (fun w => u_not w) rfl) ?_
            refine RunT.nil ?_
            refine T.cond2 rfl (fun c69 => ?_) (fun c69 => ?_)
            · have c69p := c69; (try simp only [decide_eq_true_eq, decide_eq_false_iff_not, Bool.not_eq_true', Bool.not_eq_false', Bool.and_eq_true, Bool.or_eq_true] at c69p)
              refine T.seq ?_
              have hne : ¬ (bytesOf (cand b) = b) := by rw [hX, strOf_inj (byt_of _) hB] at c69; simpa using c69
              refine T.region ?_
              refine RunT.op0 rfl rfl rfl rfl .assign ?_
              refine RunT.op0 rfl rfl rfl rfl .assign ?_
              refine RunT.nil ?_
              refine T.ret ?_
              first
              | exact RetOk.nv rfl rfl rfl (by decide) (by rw [fromR_none (by omega)]; rfl) (by rw [fromR_none (by omega)])
              | exact RetOk.nv rfl rfl rfl (by decide) (by rw [fromR_ne hne]; rfl) (by rw [fromR_ne hne])
            · have c69p := c69; (try simp only [decide_eq_true_eq, decide_eq_false_iff_not, Bool.not_eq_true', Bool.not_eq_false', Bool.and_eq_true, Bool.or_eq_true] at c69p)
              refine T.skip ?_
              refine T.seq ?_
              have heq : bytesOf (cand b) = b := by rw [hX, strOf_inj (byt_of _) hB] at c69; simpa using c69
              have hfin := fromR_ok (by have := hm4 (by omega); omega) heq
              refine T.region ?_
              refine RunT.op0 rfl rfl rfl rfl .move ?_
              refine RunT.op0 rfl rfl rfl rfl .assign ?_
              refine RunT.op0 rfl rfl rfl rfl .assign ?_
              refine RunT.nil ?_
              refine T.ret ?_
              exact RetOk.fv rfl rfl rfl rfl (ra_len _ _).symm (by rw [hX, hfin]) (by rw [hfin])

theorem rfrom_pc (b : List Int) (hB : Byt b) (hb : b.length ≤ 4294967296) : PC Try.prog false 26 [.v (.string (strOf b))] (.tup [.frs 1 ((fromR b).1.map bS), .v (.int .i64 (fromR b).2)]) := by
  have hlen := strOf_size b
  refine PC.of_T Try.func26 rfl rfl (n := 63) rfl rfl (.inr (flat_tup2 (flat_frsC (fun _ => flat_lone)) rfl)) ?_
  intro base B w0
  refine T.seq ?_
  refine T.region ?_
  refine RunT.op0 rfl rfl rfl rfl .assign ?_
  refine RunT.op0 rfl rfl rfl rfl .assign ?_
  refine RunT.nil ?_
  refine T.seq ?_
  refine T.seq ?_
  refine T.region ?_
  refine RunT.op0 rfl rfl rfl rfl .move ?_
  refine RunT.op0 rfl rfl rfl rfl (.lenV rfl (fun _ w => len_str rfl Try.underlying9 w) rfl) ?_
  refine RunT.op0 rfl rfl rfl rfl (.bin rfl rfl (fun w => b_lss w) rfl) ?_
  refine RunT.nil ?_
  refine T.cond2 rfl (fun c9 => ?_) (fun c9 => ?_)
  · have c9p := c9; (try simp only [decide_eq_true_eq, decide_eq_false_iff_not, Bool.not_eq_true', Bool.not_eq_false', Bool.and_eq_true, Bool.or_eq_true] at c9p)
    refine T.seq ?_
    refine T.region ?_
    refine RunT.op0 rfl rfl rfl rfl .assign ?_
    refine RunT.op0 rfl rfl rfl rfl .assign ?_
    refine RunT.nil ?_
    refine T.ret ?_
    first
    | exact RetOk.nv rfl rfl rfl (by decide) (by rw [fromR_none (by omega)]; rfl) (by rw [fromR_none (by omega)])
    | exact RetOk.nv rfl rfl rfl (by decide) (by rw [fromR_ne hne]; rfl) (by rw [fromR_ne hne])
    | exact RetOk.fv rfl rfl rfl rfl hral.symm (by rw [hX, hfin]) (by rw [hfin])
  · have c9p := c9; (try simp only [decide_eq_true_eq, decide_eq_false_iff_not, Bool.not_eq_true', Bool.not_eq_false', Bool.and_eq_true, Bool.or_eq_true] at c9p)
    refine T.skip ?_
    refine T.seq ?_
    obtain ⟨c0, hc0, _⟩ := gm (l := b) (f := b8) (i := 0) (by omega) (by omega)
    obtain ⟨c1, hc1, _⟩ := gm (l := b) (f := b8) (i := 1) (by omega) (by omega)
    obtain ⟨c2, hc2, _⟩ := gm (l := b) (f := b8) (i := 2) (by omega) (by omega)
    obtain ⟨c3, hc3, _⟩ := gm (l := b) (f := b8) (i := 3) (by omega) (by omega)
    have hB0 := hB c0 (List.mem_of_getElem? hc0)
    have hB1 := hB c1 (List.mem_of_getElem? hc1)
    have hB2 := hB c2 (List.mem_of_getElem? hc2)
    have hB3 := hB c3 (List.mem_of_getElem? hc3)
    have hmlt : le32 b < 4294967296 := leN_lt hB 4
    refine T.draw (wr := []) mixed rfl rfl ?_ rfl
    refine RunD.op0 rfl rfl rfl .move rfl ?_
    refine RunD.op0 rfl rfl rfl (.index rfl rfl (fun w => idxStr Try.underlying9 hB (by omega) hc0 w) rfl) rfl ?_
    refine RunD.op0 rfl rfl rfl (.conv rfl (fun w => Go.Sh.c_int' w ⟨_, Try.underlying5⟩ Try.underlying3 ((by rw [w64 (by omega) (by omega)]; simp [leN, List.getD_eq_getElem?_getD, show b[0]? = some c0 from hc0]; omega : IntKind.i64.wrap c0 = ((leN b 1 : Nat) : Int)))) rfl) rfl ?_
    refine RunD.op0 rfl rfl rfl .move rfl ?_
    refine RunD.op0 rfl rfl rfl (.index rfl rfl (fun w => idxStr Try.underlying9 hB (by omega) hc1 w) rfl) rfl ?_
    refine RunD.op0 rfl rfl rfl (.conv rfl (fun w => Go.Sh.c_int' w ⟨_, Try.underlying5⟩ Try.underlying3 (w64 (by omega) (by omega))) rfl) rfl ?_
    refine RunD.op0 rfl rfl rfl (.bin rfl rfl (fun w => b_shl' w (by decide) (shl8 (k := 1) hB1 (by decide) (by decide))) rfl) rfl ?_
    refine RunD.op0 rfl rfl rfl (.bin rfl rfl (fun w => b_or' (r := ((leN b 2 : Nat) : Int)) w (or_le (k := 1) hB (by decide) (by decide) hc1)) rfl) rfl ?_
    refine RunD.op0 rfl rfl rfl .move rfl ?_
    refine RunD.op0 rfl rfl rfl (.index rfl rfl (fun w => idxStr Try.underlying9 hB (by omega) hc2 w) rfl) rfl ?_
    refine RunD.op0 rfl rfl rfl (.conv rfl (fun w => Go.Sh.c_int' w ⟨_, Try.underlying5⟩ Try.underlying3 (w64 (by omega) (by omega))) rfl) rfl ?_
    refine RunD.op0 rfl rfl rfl (.bin rfl rfl (fun w => b_shl' w (by decide) (shl8 (k := 2) hB2 (by decide) (by decide))) rfl) rfl ?_
    refine RunD.op0 rfl rfl rfl (.bin rfl rfl (fun w => b_or' (r := ((leN b 3 : Nat) : Int)) w (or_le (k := 2) hB (by decide) (by decide) hc2)) rfl) rfl ?_
    refine RunD.op0 rfl rfl rfl .move rfl ?_
    refine RunD.op0 rfl rfl rfl (.index rfl rfl (fun w => idxStr Try.underlying9 hB (by omega) hc3 w) rfl) rfl ?_
    refine RunD.op0 rfl rfl rfl (.conv rfl (fun w => Go.Sh.c_int' w ⟨_, Try.underlying5⟩ Try.underlying3 (w64 (by omega) (by omega))) rfl) rfl ?_
    refine RunD.op0 rfl rfl rfl (.bin rfl rfl (fun w => b_shl' w (by decide) (shl8 (k := 3) hB3 (by decide) (by decide))) rfl) rfl ?_
    refine RunD.op0 rfl rfl rfl (.bin rfl rfl (fun w => b_or' (r := ((le32 b : Nat) : Int)) w (or_le (k := 3) hB (by decide) (by decide) hc3)) rfl) rfl ?_
    refine RunD.op0 rfl rfl rfl .assign rfl ?_
    refine RunD.nil (by kernel_rfl) ⟨rfl, rfl, ?_⟩
    refine T.seq ?_
    refine T.seq ?_
    refine T.region ?_
    refine RunT.op0 rfl rfl rfl rfl .move ?_
    refine RunT.op0 rfl rfl rfl rfl (.bin rfl rfl (fun w => b_gtr w) rfl) ?_
    refine RunT.op0 rfl rfl rfl rfl .move ?_
    refine RunT.cases (t := 30) rfl (fun g30 => ?_) (fun g30 => ?_)
    · have g30p := g30; (try simp only [decide_eq_true_eq, decide_eq_false_iff_not, Bool.not_eq_true', Bool.not_eq_false', Bool.and_eq_true, Bool.or_eq_true] at g30p)
      refine RunT.no rfl rfl rfl (bo g30) rfl ?_
      refine RunT.no rfl rfl rfl (bo g30) rfl ?_
      refine RunT.no rfl rfl rfl (bo g30) rfl ?_
      refine RunT.no rfl rfl rfl (bo g30) rfl ?_
      refine RunT.no rfl rfl rfl (bo g30) rfl ?_
      refine RunT.no rfl rfl rfl (bo g30) rfl ?_
      refine RunT.no rfl rfl rfl (bo g30) rfl ?_
      refine RunT.op0 rfl rfl rfl rfl (.pick (bo g30)) ?_
      refine RunT.nil ?_
      refine T.condT rfl ?_
      refine T.seq ?_
      refine T.region ?_
      refine RunT.op0 rfl rfl rfl rfl .assign ?_
      refine RunT.op0 rfl rfl rfl rfl .assign ?_
      refine RunT.nil ?_
      refine T.ret ?_
      first
      | exact RetOk.nv rfl rfl rfl (by decide) (by rw [fromR_none (by omega)]; rfl) (by rw [fromR_none (by omega)])
      | exact RetOk.nv rfl rfl rfl (by decide) (by rw [fromR_ne hne]; rfl) (by rw [fromR_ne hne])
      | exact RetOk.fv rfl rfl rfl rfl hral.symm (by rw [hX, hfin]) (by rw [hfin])
    · have g30p := g30; (try simp only [decide_eq_true_eq, decide_eq_false_iff_not, Bool.not_eq_true', Bool.not_eq_false', Bool.and_eq_true, Bool.or_eq_true] at g30p)
      refine RunT.opg rfl rfl rfl (bo g30) rfl rfl .move ?_
      refine RunT.opg rfl rfl rfl (bo g30) rfl rfl (.lenV rfl (fun _ w => len_str rfl Try.underlying9 w) rfl) ?_
      refine RunT.opg rfl rfl rfl (bo g30) rfl rfl .move ?_
      refine RunT.opg rfl rfl rfl (bo g30) rfl rfl (.bin rfl rfl (fun w => b_add' w (w64 (by omega) (by omega))) rfl) ?_
      refine RunT.opg rfl rfl rfl (bo g30) rfl rfl (.bin rfl rfl (fun w => b_quo' w (by decide) (qd7 (le32 b) (by omega))) rfl) ?_
      refine RunT.opg rfl rfl rfl (bo g30) rfl rfl (.bin rfl rfl (fun w => b_add' w (w64 (by omega) (by omega))) rfl) ?_
      refine RunT.opg rfl rfl rfl (bo g30) rfl rfl (.bin rfl rfl (fun w => b_neq w) rfl) ?_
      refine RunT.op0 rfl rfl rfl rfl (.pick (bo g30)) ?_
      refine RunT.nil ?_
      refine T.cond2 rfl (fun c38 => ?_) (fun c38 => ?_)
      · have c38p := c38; (try simp only [decide_eq_true_eq, decide_eq_false_iff_not, Bool.not_eq_true', Bool.not_eq_false', Bool.and_eq_true, Bool.or_eq_true] at c38p)
        refine T.seq ?_
        refine T.region ?_
        refine RunT.op0 rfl rfl rfl rfl .assign ?_
        refine RunT.op0 rfl rfl rfl rfl .assign ?_
        refine RunT.nil ?_
        refine T.ret ?_
        first
        | exact RetOk.nv rfl rfl rfl (by decide) (by rw [fromR_none (by omega)]; rfl) (by rw [fromR_none (by omega)])
        | exact RetOk.nv rfl rfl rfl (by decide) (by rw [fromR_ne hne]; rfl) (by rw [fromR_ne hne])
        | exact RetOk.fv rfl rfl rfl rfl hral.symm (by rw [hX, hfin]) (by rw [hfin])
      · have c38p := c38; (try simp only [decide_eq_true_eq, decide_eq_false_iff_not, Bool.not_eq_true', Bool.not_eq_false', Bool.and_eq_true, Bool.or_eq_true] at c38p)
        refine T.skip ?_
        refine T.seq ?_
        refine T.region ?_
        refine RunT.op0 rfl rfl rfl rfl .assign ?_
        refine RunT.nil ?_
        refine T.seq ?_
        refine T.seq ?_
        refine T.region ?_
        refine RunT.op0 rfl rfl rfl rfl .assign ?_
        refine RunT.nil ?_
        refine T.block ?_
        refine T.sub (sub_nil (t := 5) (sz := 1) false rfl (by decide) rfl) ?_
        refine T.loopS (fun n s => ∃ i : Int, ∃ z : Nat, n = ((le32 b : Int) - i).toNat ∧ (z : Int) = i ∧ i ≤ (le32 b : Int) ∧ s = ⟨[(0, .v (.string (strOf b))), (4, .v (.int .i64 (le32 b : Int))), (5, .own 0 0 z), (6, .v (.int .i64 i))], [(0, some (.arr false 1 ((ra z (candAt b)).map bS)))], 8, []⟩) (_) ⟨_, ⟨0, 0, rfl, rfl, by omega, rfl⟩, (sub_of (fun b => b + 152) rfl (by repeat (first | exact trivial | exact ⟨rfl, rfl⟩ | refine ⟨?_, ?_⟩)) ⟨⟨rfl, rfl, trivial⟩, trivial⟩ (fun _ _ _ _ _ _ h => by omega))⟩ ?_
        rintro n s ⟨i, z, rfl, h0, h1, rfl⟩
        refine T.seq ?_
        refine T.seq ?_
        refine T.region ?_
        refine RunT.op0 rfl rfl rfl rfl .move ?_
        refine RunT.op0 rfl rfl rfl rfl .move ?_
        refine RunT.op0 rfl rfl rfl rfl (.bin rfl rfl (fun w => b_lss w) rfl) ?_
        refine RunT.nil ?_
        refine T.cond2 rfl (fun c41 => ?_) (fun c41 => ?_)
        · have c41p := c41; (try simp only [decide_eq_true_eq, decide_eq_false_iff_not, Bool.not_eq_true', Bool.not_eq_false', Bool.and_eq_true, Bool.or_eq_true] at c41p)
          refine T.skip ?_
          refine T.seq ?_
          refine T.block ?_
          obtain ⟨c, hc, hcx⟩ := gm (l := b) (f := b8) (i := 4 + i / 8) (by omega) (by omega)
          have hcb := hB c (List.mem_of_getElem? hc)
          have hcs : c.toNat >>> (i % 8).toNat < 256 := by rw [Nat.shiftRight_eq_div_pow]; exact Nat.lt_of_le_of_lt (Nat.div_le_self _ _) (by omega)
          have hcand : candAt b z = decide (((c.toNat >>> (i % 8).toNat &&& 1 : Nat) : Int) = 1) := by
            unfold candAt
            rw [show 4 + z / 8 = (4 + i / 8).toNat by omega, List.getD_eq_getElem?_getD, hc, show z % 8 = (i % 8).toNat by omega, decide_eq_decide]
            simp only [Option.getD_some]
            omega
          have hcand' : bS (candAt b z) = bS (decide (((c.toNat >>> (i % 8).toNat &&& 1 : Nat) : Int) = 1)) := by rw [hcand]
          refine T.region ?_
          refine RunT.op0 rfl rfl rfl rfl .move ?_
          refine RunT.op0 rfl rfl rfl rfl .move ?_
          refine RunT.op0 rfl rfl rfl rfl .move ?_
          refine RunT.op0 rfl rfl rfl rfl (.bin rfl rfl (fun w => b_quo' w (by decide) (qd (by omega) (by omega))) rfl) ?_
          refine RunT.op0 rfl rfl rfl rfl (.bin rfl rfl (fun w => b_add' w (w64 (by omega) (by omega))) rfl) ?_
          refine RunT.op0 rfl rfl rfl rfl (.index rfl rfl (fun w => idxStr Try.underlying9 hB (by omega) hc w) rfl) ?_
          refine RunT.op0 rfl rfl rfl rfl .move ?_
          refine RunT.op0 rfl rfl rfl rfl (.bin rfl rfl (fun w => b_rem' w (by decide) (rd (by omega))) rfl) ?_
          refine RunT.op0 rfl rfl rfl rfl (.conv rfl (fun w => Go.Sh.c_int' w ⟨_, Try.underlying3⟩ Try.underlying31 (wu64 (by omega) (by omega))) rfl) ?_
          refine RunT.op0 rfl rfl rfl rfl (.bin rfl rfl (fun w => b_shr' w (by omega) (shr8 hcb.1 (by omega) (by omega))) rfl) ?_
          refine RunT.op0 rfl rfl rfl rfl (.bin rfl rfl (fun w => b_and' w (and8 hcs)) rfl) ?_
          refine RunT.op0 rfl rfl rfl rfl (.bin rfl rfl (fun w => b_eql w) rfl) ?_
          refine RunT.op0 rfl rfl rfl rfl (.bslice (d := false) sl34 rfl rfl (by intro y hy; rcases List.mem_cons.1 hy with rfl | hy; exact ⟨rfl, rfl, fun _ => rfl⟩; exact (List.not_mem_nil hy).elim) (by decide)) ?_
          refine RunT.op0 rfl rfl rfl rfl (.appO (d := false) sl34 rfl rfl (by rw [ra_len]; omega) (List.take_of_length_le (by rw [ra_len]; omega)) rfl (.own Try.underlying34 rfl (Nat.le_refl _) (show _ = [_] from rfl) (fun h => by cases h)) rfl (by simp only [List.length_cons, List.length_nil]; omega)) ?_
          refine RunT.op0 rfl rfl rfl rfl .assign ?_
          refine RunT.nil ?_
          refine T.region ?_
          refine RunT.op0 rfl rfl rfl rfl .move ?_
          refine RunT.op0 rfl rfl rfl rfl (.bin rfl rfl (fun w => b_add' w (w64 (by omega) (by omega))) rfl) ?_
          refine RunT.op0 rfl rfl rfl rfl .assign ?_
          refine RunT.nil ?_
          refine ⟨((le32 b : Int) - (i + 1)).toNat, by omega, _, ⟨i + 1, z + 1, rfl, by omega, by omega, rfl⟩, ?_⟩
          exact sub_of (fun b => b + 16) rfl (by repeat (first | exact trivial | exact ⟨rfl, rfl⟩ | refine ⟨?_, ?_⟩)) ⟨⟨rfl, congrArg (fun l => some (Blk.arr false 1 l)) (ra_succ hcand'), trivial⟩, trivial⟩ (fun _ _ _ _ _ _ h => by omega)
        · have c41p := c41; (try simp only [decide_eq_true_eq, decide_eq_false_iff_not, Bool.not_eq_true', Bool.not_eq_false', Bool.and_eq_true, Bool.or_eq_true] at c41p)
          refine T.exit ?_
          refine T.seq ?_
          refine T.seq ?_
          have hral : ((ra z (candAt b)).map bS).length = z := ra_len _ _
          have hX : ra z (candAt b) = cand b := by unfold cand; rw [show z = le32 b by omega]
          refine T.region ?_
          refine RunT.op0 rfl rfl rfl rfl .move ?_
          refine RunT.call0 rfl rfl rfl rfl rfl rfl (rbytes_pc (ra z (candAt b)) (by simp [ra]; omega)) (by repeat (first | exact trivial | refine ⟨?_, ?_⟩ | exact .one .v | exact .one .lst | exact .one .rptr | exact .one (.all rfl rfl) | exact .one .nil | exact .agg' (by repeat (first | exact trivial | refine ⟨?_, ?_⟩ | exact .v | exact .lst | exact .rptr | exact .all rfl rfl | exact .nil | exact .clo' trivial)) | exact .one (.clo' (by repeat (first | exact trivial | refine ⟨?_, ?_⟩ | exact .v | exact .lst | exact .rptr | exact .all rfl rfl | exact .nil | exact .clo' trivial))) | exact .one (.ptr' rfl (by repeat (first | exact trivial | refine ⟨?_, ?_⟩ | exact .v | exact .lst | exact .rptr | exact .all rfl rfl | exact .nil | exact .clo' trivial))) | exact .one (.own' rfl (by first | omega | (simp; done) | (simp; omega)) (by first | rw [List.drop_zero, List.take_of_length_le (by omega)] | (rw [List.drop_zero, List.take_of_length_le (by simp)]; simp; done) | (simp [List.take_append]; done) | (simp; omega))))) (Nat.le_of_ble_eq_true rfl) ?_
          refine RunT.op0 rfl rfl rfl rfl .move ?_
          refine RunT.op0 rfl rfl rfl rfl (.bin rfl rfl (fun w => neStr w) rfl) ?_
          refine RunT.nil ?_
          refine T.cond2 rfl (fun c61 => ?_) (fun c61 => ?_)
          · have c61p := c61; (try simp only [decide_eq_true_eq, decide_eq_false_iff_not, Bool.not_eq_true', Bool.not_eq_false', Bool.and_eq_true, Bool.or_eq_true] at c61p)
            refine T.seq ?_
            have hne : ¬ (bytesOf (cand b) = b) := by rw [hX, strOf_inj (byt_of _) hB] at c61; simpa using c61
            refine T.region ?_
            refine RunT.op0 rfl rfl rfl rfl .assign ?_
            refine RunT.op0 rfl rfl rfl rfl .assign ?_
            refine RunT.nil ?_
            refine T.ret ?_
            first
            | exact RetOk.nv rfl rfl rfl (by decide) (by rw [fromR_none (by omega)]; rfl) (by rw [fromR_none (by omega)])
            | exact RetOk.nv rfl rfl rfl (by decide) (by rw [fromR_ne hne]; rfl) (by rw [fromR_ne hne])
            | exact RetOk.fv rfl rfl rfl rfl hral.symm (by rw [hX, hfin]) (by rw [hfin])
          · have c61p := c61; (try simp only [decide_eq_true_eq, decide_eq_false_iff_not, Bool.not_eq_true', Bool.not_eq_false', Bool.and_eq_true, Bool.or_eq_true] at c61p)
            refine T.skip ?_
            refine T.seq ?_
            have heq : bytesOf (cand b) = b := by rw [hX, strOf_inj (byt_of _) hB] at c61; simpa using c61
            have hfin := fromR_ok (by omega) heq
            refine T.region ?_
            refine RunT.op0 rfl rfl rfl rfl .move ?_
            refine RunT.op0 rfl rfl rfl rfl .assign ?_
            refine RunT.op0 rfl rfl rfl rfl .assign ?_
            refine RunT.nil ?_
            refine T.ret ?_
            first
            | exact RetOk.nv rfl rfl rfl (by decide) (by rw [fromR_none (by omega)]; rfl) (by rw [fromR_none (by omega)])
            | exact RetOk.nv rfl rfl rfl (by decide) (by rw [fromR_ne hne]; rfl) (by rw [fromR_ne hne])
            | exact RetOk.fv rfl rfl rfl rfl hral.symm (by rw [hX, hfin]) (by rw [hfin])

theorem from_ok (l : List Bool) (h : l.length ≤ 1048576) : PC Try.prog false 25 [.lst ((bytesOf l).map b8)] (.tup [.frs 1 (l.map bS), .v (.int .i64 0)]) := by
  have := from_pc (bytesOf l) (byt_of l) (by rw [bytesOf_len]; unfold nb; omega)
  rwa [fromR_of h rfl] at this

theorem from_bad (b : List Int) (hB : Byt b) (hb : b.length ≤ 4294967296) (h : fromR b = ([], 10)) : PC Try.prog false 25 [.lst (b.map b8)] (.tup [.frs 1 ([]), .v (.int .i64 10)]) := by
  have := from_pc b hB hb
  rwa [h] at this

theorem told35 : (strOf (bytesOf [true, false, true]) == ⟨#[3, 0, 0, 0, 5]⟩) = true := by decide +kernel

theorem told_pc : PC Try.prog false 23 [] (.v (.bool (true))) := by
  refine PC.of_T Try.func23 rfl rfl (n := 85) rfl rfl (.inr rfl) ?_
  intro base B w0
  refine T.seq ?_
  refine T.region ?_
  refine RunT.op0 rfl rfl rfl rfl .assign ?_
  refine RunT.nil ?_
  refine T.seq ?_
  refine T.region ?_
  refine RunT.op0 rfl rfl rfl rfl (.bslice (d := false) sl34 rfl rfl (by intro y hy; rcases List.mem_cons.1 hy with rfl | hy; exact ⟨rfl, rfl, fun _ => rfl⟩; rcases List.mem_cons.1 hy with rfl | hy; exact ⟨rfl, rfl, fun _ => rfl⟩; rcases List.mem_cons.1 hy with rfl | hy; exact ⟨rfl, rfl, fun _ => rfl⟩; exact (List.not_mem_nil hy).elim) (by decide)) ?_
  refine RunT.call0 rfl rfl rfl rfl rfl rfl (bytes_pc [true, false, true] (by decide)) (by repeat (first | exact trivial | refine ⟨?_, ?_⟩ | exact .one .v | exact .one .lst | exact .one .rptr | exact .one (.all rfl rfl) | exact .one .nil | exact .agg' (by repeat (first | exact trivial | refine ⟨?_, ?_⟩ | exact .v | exact .lst | exact .rptr | exact .all rfl rfl | exact .nil | exact .clo' trivial)) | exact .one (.clo' (by repeat (first | exact trivial | refine ⟨?_, ?_⟩ | exact .v | exact .lst | exact .rptr | exact .all rfl rfl | exact .nil | exact .clo' trivial))) | exact .one (.ptr' rfl (by repeat (first | exact trivial | refine ⟨?_, ?_⟩ | exact .v | exact .lst | exact .rptr | exact .all rfl rfl | exact .nil | exact .clo' trivial))) | exact .one (.own' rfl (by first | omega | (simp; done) | (simp; omega)) (by first | rw [List.drop_zero, List.take_of_length_le (by omega)] | (rw [List.drop_zero, List.take_of_length_le (by simp)]; simp; done) | (simp [List.take_append]; done) | (simp; omega))))) (Nat.le_of_ble_eq_true rfl) ?_
  refine RunT.op0 rfl rfl rfl rfl .assign ?_
  refine RunT.nil ?_
  refine T.seq ?_
  refine T.region ?_
  refine RunT.op0 rfl rfl rfl rfl .move ?_
  refine RunT.call0 rfl rfl rfl rfl rfl rfl (from_ok [true, false, true] (by decide)) (by repeat (first | exact trivial | refine ⟨?_, ?_⟩ | exact .one .v | exact .one .lst | exact .one .rptr | exact .one (.all rfl rfl) | exact .one .nil | exact .agg' (by repeat (first | exact trivial | refine ⟨?_, ?_⟩ | exact .v | exact .lst | exact .rptr | exact .all rfl rfl | exact .nil | exact .clo' trivial)) | exact .one (.clo' (by repeat (first | exact trivial | refine ⟨?_, ?_⟩ | exact .v | exact .lst | exact .rptr | exact .all rfl rfl | exact .nil | exact .clo' trivial))) | exact .one (.ptr' rfl (by repeat (first | exact trivial | refine ⟨?_, ?_⟩ | exact .v | exact .lst | exact .rptr | exact .all rfl rfl | exact .nil | exact .clo' trivial))) | exact .one (.own' rfl (by first | omega | (simp; done) | (simp; omega)) (by first | rw [List.drop_zero, List.take_of_length_le (by omega)] | (rw [List.drop_zero, List.take_of_length_le (by simp)]; simp; done) | (simp [List.take_append]; done) | (simp; omega))))) (Nat.le_of_ble_eq_true rfl) ?_
  refine RunT.op0 rfl rfl rfl rfl .move ?_
  refine RunT.op0 rfl rfl rfl rfl (.extract rfl rfl) ?_
  refine RunT.op0 rfl rfl rfl rfl (.extract rfl rfl) ?_
  refine RunT.op0 rfl rfl rfl rfl .assign ?_
  refine RunT.op0 rfl rfl rfl rfl .assign ?_
  refine RunT.nil ?_
  refine T.seq ?_
  refine T.region ?_
  refine RunT.op0 rfl rfl rfl rfl (.bslice (d := false) sl35 rfl rfl (by intro y hy; rcases List.mem_cons.1 hy with rfl | hy; exact ⟨rfl, rfl, fun _ => rfl⟩; rcases List.mem_cons.1 hy with rfl | hy; exact ⟨rfl, rfl, fun _ => rfl⟩; rcases List.mem_cons.1 hy with rfl | hy; exact ⟨rfl, rfl, fun _ => rfl⟩; rcases List.mem_cons.1 hy with rfl | hy; exact ⟨rfl, rfl, fun _ => rfl⟩; exact (List.not_mem_nil hy).elim) (by decide)) ?_
  refine RunT.call0 rfl rfl rfl rfl rfl rfl (from_bad [1, 0, 0, 0] (by unfold Byt; decide) (by decide) (fromR_none (by decide))) (by repeat (first | exact trivial | refine ⟨?_, ?_⟩ | exact .one .v | exact .one .lst | exact .one .rptr | exact .one (.all rfl rfl) | exact .one .nil | exact .agg' (by repeat (first | exact trivial | refine ⟨?_, ?_⟩ | exact .v | exact .lst | exact .rptr | exact .all rfl rfl | exact .nil | exact .clo' trivial)) | exact .one (.clo' (by repeat (first | exact trivial | refine ⟨?_, ?_⟩ | exact .v | exact .lst | exact .rptr | exact .all rfl rfl | exact .nil | exact .clo' trivial))) | exact .one (.ptr' rfl (by repeat (first | exact trivial | refine ⟨?_, ?_⟩ | exact .v | exact .lst | exact .rptr | exact .all rfl rfl | exact .nil | exact .clo' trivial))) | exact .one (.own' rfl (by first | omega | (simp; done) | (simp; omega)) (by first | rw [List.drop_zero, List.take_of_length_le (by omega)] | (rw [List.drop_zero, List.take_of_length_le (by simp)]; simp; done) | (simp [List.take_append]; done) | (simp; omega))))) (Nat.le_of_ble_eq_true rfl) ?_
  refine RunT.op0 rfl rfl rfl rfl .move ?_
  refine RunT.op0 rfl rfl rfl rfl (.extract rfl rfl) ?_
  refine RunT.op0 rfl rfl rfl rfl (.extract rfl rfl) ?_
  refine RunT.op0 rfl rfl rfl rfl .assign ?_
  refine RunT.op0 rfl rfl rfl rfl .assign ?_
  refine RunT.nil ?_
  refine T.seq ?_
  refine T.region ?_
  refine RunT.op0 rfl rfl rfl rfl (.bslice (d := false) sl35 rfl rfl (by intro y hy; rcases List.mem_cons.1 hy with rfl | hy; exact ⟨rfl, rfl, fun _ => rfl⟩; rcases List.mem_cons.1 hy with rfl | hy; exact ⟨rfl, rfl, fun _ => rfl⟩; rcases List.mem_cons.1 hy with rfl | hy; exact ⟨rfl, rfl, fun _ => rfl⟩; rcases List.mem_cons.1 hy with rfl | hy; exact ⟨rfl, rfl, fun _ => rfl⟩; rcases List.mem_cons.1 hy with rfl | hy; exact ⟨rfl, rfl, fun _ => rfl⟩; exact (List.not_mem_nil hy).elim) (by decide)) ?_
  refine RunT.call0 rfl rfl rfl rfl rfl rfl (from_bad [1, 0, 0, 0, 2] (by unfold Byt; decide) (by decide) (fromR_ne (by decide))) (by repeat (first | exact trivial | refine ⟨?_, ?_⟩ | exact .one .v | exact .one .lst | exact .one .rptr | exact .one (.all rfl rfl) | exact .one .nil | exact .agg' (by repeat (first | exact trivial | refine ⟨?_, ?_⟩ | exact .v | exact .lst | exact .rptr | exact .all rfl rfl | exact .nil | exact .clo' trivial)) | exact .one (.clo' (by repeat (first | exact trivial | refine ⟨?_, ?_⟩ | exact .v | exact .lst | exact .rptr | exact .all rfl rfl | exact .nil | exact .clo' trivial))) | exact .one (.ptr' rfl (by repeat (first | exact trivial | refine ⟨?_, ?_⟩ | exact .v | exact .lst | exact .rptr | exact .all rfl rfl | exact .nil | exact .clo' trivial))) | exact .one (.own' rfl (by first | omega | (simp; done) | (simp; omega)) (by first | rw [List.drop_zero, List.take_of_length_le (by omega)] | (rw [List.drop_zero, List.take_of_length_le (by simp)]; simp; done) | (simp [List.take_append]; done) | (simp; omega))))) (Nat.le_of_ble_eq_true rfl) ?_
  refine RunT.op0 rfl rfl rfl rfl .move ?_
  refine RunT.op0 rfl rfl rfl rfl (.extract rfl rfl) ?_
  refine RunT.op0 rfl rfl rfl rfl (.extract rfl rfl) ?_
  refine RunT.op0 rfl rfl rfl rfl .assign ?_
  refine RunT.op0 rfl rfl rfl rfl .assign ?_
  refine RunT.nil ?_
  refine T.seq ?_
  refine T.region ?_
  refine RunT.op0 rfl rfl rfl rfl .move ?_
  refine RunT.call0 rfl rfl rfl rfl rfl rfl (size_pc [true, false, true] (by decide)) (by repeat (first | exact trivial | refine ⟨?_, ?_⟩ | exact .one .v | exact .one .lst | exact .one .rptr | exact .one (.all rfl rfl) | exact .one .nil | exact .agg' (by repeat (first | exact trivial | refine ⟨?_, ?_⟩ | exact .v | exact .lst | exact .rptr | exact .all rfl rfl | exact .nil | exact .clo' trivial)) | exact .one (.clo' (by repeat (first | exact trivial | refine ⟨?_, ?_⟩ | exact .v | exact .lst | exact .rptr | exact .all rfl rfl | exact .nil | exact .clo' trivial))) | exact .one (.ptr' rfl (by repeat (first | exact trivial | refine ⟨?_, ?_⟩ | exact .v | exact .lst | exact .rptr | exact .all rfl rfl | exact .nil | exact .clo' trivial))) | exact .one (.own' rfl (by first | omega | (simp; done) | (simp; omega)) (by first | rw [List.drop_zero, List.take_of_length_le (by omega)] | (rw [List.drop_zero, List.take_of_length_le (by simp)]; simp; done) | (simp [List.take_append]; done) | (simp; omega))))) (Nat.le_of_ble_eq_true rfl) ?_
  refine RunT.op0 rfl rfl rfl rfl .move ?_
  refine RunT.op0 rfl rfl rfl rfl (.extract rfl rfl) ?_
  refine RunT.op0 rfl rfl rfl rfl (.extract rfl rfl) ?_
  refine RunT.op0 rfl rfl rfl rfl .assign ?_
  refine RunT.op0 rfl rfl rfl rfl .assign ?_
  refine RunT.nil ?_
  refine T.seq ?_
  refine T.region ?_
  refine RunT.op0 rfl rfl rfl rfl .move ?_
  refine RunT.op0 rfl rfl rfl rfl (.toStr (d := false) (ns := bytesOf [true, false, true]) Try.underlying35 Try.underlying5 Try.underlying9 rfl (.own Try.underlying35 rfl (Nat.le_of_eq (Nat.zero_add _)) List.take_length (fun h => by cases h))) ?_
  refine RunT.op0 rfl rfl rfl rfl (.bin rfl rfl (fun w => eqStr w) rfl) ?_
  refine RunT.op0 rfl rfl rfl rfl .move ?_
  refine RunT.opg rfl rfl rfl (bo told35) rfl rfl .move ?_
  refine RunT.opg rfl rfl rfl (bo told35) rfl rfl (.bin rfl rfl (fun w => b_eql w) rfl) ?_
  refine RunT.op0 rfl rfl rfl rfl (.pick (bo told35)) ?_
  refine RunT.op0 rfl rfl rfl rfl .move ?_
  refine RunT.opg rfl rfl rfl rfl rfl rfl .move ?_
  refine RunT.opg rfl rfl rfl rfl rfl rfl (by first | exact .lenL Try.underlying34 rfl rfl | exact .lenO Try.underlying34 rfl rfl | exact .lenV rfl (fun _ w => len_nil rfl Try.underlying34 w) rfl) ?_
  refine RunT.opg rfl rfl rfl rfl rfl rfl (.bin rfl rfl (fun w => b_eql w) rfl) ?_
  refine RunT.op0 rfl rfl rfl rfl (.pick rfl) ?_
  refine RunT.op0 rfl rfl rfl rfl .move ?_
  refine RunT.opg rfl rfl rfl rfl rfl rfl .move ?_
  refine RunT.opg rfl rfl rfl rfl rfl rfl (.idxO sl34 rfl rfl rfl (by decide) (by decide)) ?_
  refine RunT.opg rfl rfl rfl rfl rfl rfl (.loadE ty4 rfl rfl rfl rfl) ?_
  refine RunT.op0 rfl rfl rfl rfl (.pick rfl) ?_
  refine RunT.op0 rfl rfl rfl rfl .move ?_
  refine RunT.opg rfl rfl rfl rfl rfl rfl .move ?_
  refine RunT.opg rfl rfl rfl rfl rfl rfl (.bin rfl rfl (fun w => b_eql w) rfl) ?_
  refine RunT.op0 rfl rfl rfl rfl (.pick rfl) ?_
  refine RunT.op0 rfl rfl rfl rfl .move ?_
  refine RunT.opg rfl rfl rfl rfl rfl rfl .move ?_
  refine RunT.opg rfl rfl rfl rfl rfl rfl (.bin rfl rfl (fun w => b_eql w) rfl) ?_
  refine RunT.op0 rfl rfl rfl rfl (.pick rfl) ?_
  refine RunT.op0 rfl rfl rfl rfl .move ?_
  refine RunT.opg rfl rfl rfl rfl rfl rfl .move ?_
  refine RunT.opg rfl rfl rfl rfl rfl rfl (.bin rfl rfl (fun w => b_eql w) rfl) ?_
  refine RunT.op0 rfl rfl rfl rfl (.pick rfl) ?_
  refine RunT.op0 rfl rfl rfl rfl .move ?_
  refine RunT.opg rfl rfl rfl rfl rfl rfl .move ?_
  refine RunT.opg rfl rfl rfl rfl rfl rfl (.bin rfl rfl (fun w => b_eql w) rfl) ?_
  refine RunT.op0 rfl rfl rfl rfl (.pick rfl) ?_
  refine RunT.op0 rfl rfl rfl rfl .move ?_
  refine RunT.opg rfl rfl rfl rfl rfl rfl .move ?_
  refine RunT.callg rfl rfl rfl rfl rfl rfl rfl rfl (cuts_pc [true, false, true] (by decide)) (by repeat (first | exact trivial | refine ⟨?_, ?_⟩ | exact .one .v | exact .one .lst | exact .one .rptr | exact .one (.all rfl rfl) | exact .one .nil | exact .agg' (by repeat (first | exact trivial | refine ⟨?_, ?_⟩ | exact .v | exact .lst | exact .rptr | exact .all rfl rfl | exact .nil | exact .clo' trivial)) | exact .one (.clo' (by repeat (first | exact trivial | refine ⟨?_, ?_⟩ | exact .v | exact .lst | exact .rptr | exact .all rfl rfl | exact .nil | exact .clo' trivial))) | exact .one (.ptr' rfl (by repeat (first | exact trivial | refine ⟨?_, ?_⟩ | exact .v | exact .lst | exact .rptr | exact .all rfl rfl | exact .nil | exact .clo' trivial))) | exact .one (.own' rfl (by first | omega | (simp; done) | (simp; omega)) (by first | rw [List.drop_zero, List.take_of_length_le (by omega)] | (rw [List.drop_zero, List.take_of_length_le (by simp)]; simp; done) | (simp [List.take_append]; done) | (simp; omega))))) (Nat.le_of_ble_eq_true rfl) ?_
  refine RunT.opg rfl rfl rfl rfl rfl rfl (.bin rfl rfl (fun w => b_eql w) rfl) ?_
  refine RunT.op0 rfl rfl rfl rfl (.pick rfl) ?_
  refine RunT.op0 rfl rfl rfl rfl .move ?_
  refine RunT.opg rfl rfl rfl rfl rfl rfl .move ?_
  refine RunT.opg rfl rfl rfl rfl rfl rfl (.bslice (d := false) sl34 rfl rfl (by intro y hy; rcases List.mem_cons.1 hy with rfl | hy; exact ⟨rfl, rfl, fun _ => rfl⟩; rcases List.mem_cons.1 hy with rfl | hy; exact ⟨rfl, rfl, fun _ => rfl⟩; rcases List.mem_cons.1 hy with rfl | hy; exact ⟨rfl, rfl, fun _ => rfl⟩; exact (List.not_mem_nil hy).elim) (by decide)) ?_
  refine RunT.callg rfl rfl rfl rfl rfl rfl rfl rfl (tsame_pc [true, false, true] [true, false, true] (by decide)) (by repeat (first | exact trivial | refine ⟨?_, ?_⟩ | exact .one .v | exact .one .lst | exact .one .rptr | exact .one (.all rfl rfl) | exact .one .nil | exact .agg' (by repeat (first | exact trivial | refine ⟨?_, ?_⟩ | exact .v | exact .lst | exact .rptr | exact .all rfl rfl | exact .nil | exact .clo' trivial)) | exact .one (.clo' (by repeat (first | exact trivial | refine ⟨?_, ?_⟩ | exact .v | exact .lst | exact .rptr | exact .all rfl rfl | exact .nil | exact .clo' trivial))) | exact .one (.ptr' rfl (by repeat (first | exact trivial | refine ⟨?_, ?_⟩ | exact .v | exact .lst | exact .rptr | exact .all rfl rfl | exact .nil | exact .clo' trivial))) | exact .one (.own' rfl (by first | omega | (simp; done) | (simp; omega)) (by first | rw [List.drop_zero, List.take_of_length_le (by omega)] | (rw [List.drop_zero, List.take_of_length_le (by simp)]; simp; done) | (simp [List.take_append]; done) | (simp; omega))))) (Nat.le_of_ble_eq_true rfl) ?_
  refine RunT.op0 rfl rfl rfl rfl (.pick rfl) ?_
  refine RunT.op0 rfl rfl rfl rfl .move ?_
  refine RunT.opg rfl rfl rfl rfl rfl rfl .move ?_
  refine RunT.callg rfl rfl rfl rfl rfl rfl rfl rfl (tsame_pc [true, false, true] [] (by decide)) (by repeat (first | exact trivial | refine ⟨?_, ?_⟩ | exact .one .v | exact .one .lst | exact .one .rptr | exact .one (.all rfl rfl) | exact .one .nil | exact .agg' (by repeat (first | exact trivial | refine ⟨?_, ?_⟩ | exact .v | exact .lst | exact .rptr | exact .all rfl rfl | exact .nil | exact .clo' trivial)) | exact .one (.clo' (by repeat (first | exact trivial | refine ⟨?_, ?_⟩ | exact .v | exact .lst | exact .rptr | exact .all rfl rfl | exact .nil | exact .clo' trivial))) | exact .one (.ptr' rfl (by repeat (first | exact trivial | refine ⟨?_, ?_⟩ | exact .v | exact .lst | exact .rptr | exact .all rfl rfl | exact .nil | exact .clo' trivial))) | exact .one (.own' rfl (by first | omega | (simp; done) | (simp; omega)) (by first | rw [List.drop_zero, List.take_of_length_le (by omega)] | (rw [List.drop_zero, List.take_of_length_le (by simp)]; simp; done) | (simp [List.take_append]; done) | (simp; omega))))) (Nat.le_of_ble_eq_true rfl) ?_
  refine RunT.opg rfl rfl rfl rfl rfl rfl (.un rfl (fun w => u_not w) rfl) ?_
  refine RunT.op0 rfl rfl rfl rfl (.pick rfl) ?_
  refine RunT.op0 rfl rfl rfl rfl .move ?_
  refine RunT.callg rfl rfl rfl rfl rfl rfl rfl rfl (bytes_pc [] (by decide)) (by repeat (first | exact trivial | refine ⟨?_, ?_⟩ | exact .one .v | exact .one .lst | exact .one .rptr | exact .one (.all rfl rfl) | exact .one .nil | exact .agg' (by repeat (first | exact trivial | refine ⟨?_, ?_⟩ | exact .v | exact .lst | exact .rptr | exact .all rfl rfl | exact .nil | exact .clo' trivial)) | exact .one (.clo' (by repeat (first | exact trivial | refine ⟨?_, ?_⟩ | exact .v | exact .lst | exact .rptr | exact .all rfl rfl | exact .nil | exact .clo' trivial))) | exact .one (.ptr' rfl (by repeat (first | exact trivial | refine ⟨?_, ?_⟩ | exact .v | exact .lst | exact .rptr | exact .all rfl rfl | exact .nil | exact .clo' trivial))) | exact .one (.own' rfl (by first | omega | (simp; done) | (simp; omega)) (by first | rw [List.drop_zero, List.take_of_length_le (by omega)] | (rw [List.drop_zero, List.take_of_length_le (by simp)]; simp; done) | (simp [List.take_append]; done) | (simp; omega))))) (Nat.le_of_ble_eq_true rfl) ?_
  refine RunT.opg rfl rfl rfl rfl rfl rfl (by first | exact .lenL Try.underlying35 rfl rfl | exact .lenO Try.underlying35 rfl rfl | exact .lenV rfl (fun _ w => len_nil rfl Try.underlying35 w) rfl) ?_
  refine RunT.opg rfl rfl rfl rfl rfl rfl (.bin rfl rfl (fun w => b_eql w) rfl) ?_
  refine RunT.op0 rfl rfl rfl rfl (.pick rfl) ?_
  refine RunT.op0 rfl rfl rfl rfl .assign ?_
  refine RunT.nil ?_
  refine T.ret ?_
  exact RetOk.v rfl rfl rfl
end Go.Proofs.Ytijfhnpmdhonhaa
