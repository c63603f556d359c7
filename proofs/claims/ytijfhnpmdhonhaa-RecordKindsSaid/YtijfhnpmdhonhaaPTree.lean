/- What tree.Bytes and tree.From compute. -/
import Derived.Test.YtijfhnpmdhonhaaPTreeMath
set_option linter.unusedVariables false
set_option linter.unusedSimpArgs false
namespace Go.Px
open Go Go.Sh
theorem tree_Bytes_l0_eq (k : Nat) (l : List Bool) (hl : l.length ≤ 4294967296) : ∀ (d n i : Nat), i + d = 4 → d < n →
    tree_Bytes_l0 k l n (rng (4 + nb l) (g1 l.length i)) (i : Int) = some (rng (4 + nb l) (g1 l.length 4))
  | d, 0, i, _, h => absurd h (by omega)
  | 0, n + 1, i, hi, _ => by
    obtain rfl : i = 4 := by omega
    rw [tree_Bytes_l0, condN (by omega)]
  | d + 1, n + 1, i, hi, h => by
    have e1 : IntKind.u64.wrap (wr (8 * (i : Int))) = 8 * (i : Int) := by rw [wr_id (by omega) (by omega), wu_id (by omega) (by omega)]
    have e2 : IntKind.u8.wrap ((l.length : Int).fdiv (2 ^ (min (8 * (i : Int)).toNat IntKind.i64.bits))) = (hdr l.length i : Int) := by
      rw [IntKind.wrap_u8]
      have e : min (8 * (i : Int)).toNat IntKind.i64.bits = 8 * i := by
        show min _ 64 = _
        omega
      rw [e, Int.fdiv_eq_ediv_of_nonneg _ (by exact Int.pow_nonneg (by omega))]
      unfold hdr
      simp
    rw [tree_Bytes_l0, condD (by omega), e1, gdD (by omega), bindS (idx_get (by omega) (by rw [Int.toNat_natCast]; exact rng_get (by omega))), wr_succ (by omega), Int.toNat_natCast, e2,
      rng_set (g' := g1 l.length (i + 1)) (by unfold g1; rw [if_pos (by omega)]) (fun q hq hne => by unfold g1; by_cases h : q < i; (rw [if_pos h, if_pos (by omega)]); (rw [if_neg h, if_neg (by omega)]))]
    exact tree_Bytes_l0_eq k l hl d n (i + 1) (by omega) (by omega)
theorem tree_Bytes_l1_eq (k : Nat) (l : List Bool) (hl : l.length ≤ 4294967296) : ∀ (d n i : Nat), i + d = l.length → d < n →
    tree_Bytes_l1 k l n (rng (4 + nb l) (g2 l i)) (i : Int) = some (bytesOf l)
  | d, 0, i, _, h => absurd h (by omega)
  | 0, n + 1, i, hi, _ => by
    obtain rfl : i = l.length := by omega
    rw [tree_Bytes_l1, condN (by omega)]
    rfl
  | d + 1, n + 1, i, hi, h => by
    have hnb := nb_def l
    have hlt : i < l.length := by omega
    have hp : l[i]? = some l[i] := List.getElem?_eq_getElem hlt
    have e0 : (i : Int).tdiv 8 = ((i / 8 : Nat) : Int) := by rw [Int.tdiv_eq_ediv_of_nonneg (by omega)]; omega
    have e1 : wr (4 + wr ((i : Int).tdiv 8)) = ((4 + i / 8 : Nat) : Int) := by rw [e0, wr_id (x := ((i / 8 : Nat) : Int)) (by omega) (by omega), wr_id (by omega) (by omega)]; omega
    have e2 : IntKind.u64.wrap ((i : Int).tmod 8) = ((i % 8 : Nat) : Int) := by rw [Int.tmod_eq_emod_of_nonneg (by omega), wu_id (by omega) (by omega)]; omega
    have hg : (rng (4 + nb l) (g2 l i))[4 + i / 8]? = some (g2 l i (4 + i / 8) : Int) := rng_get (by omega)
    rw [tree_Bytes_l1, condD (by omega), bindS (idx_nat hlt), wr_succ (by omega), e1, e2, Int.toNat_natCast]
    cases hb : l[i] with
    | true =>
      rw [hb] at hp
      have hor : g2 l i (4 + i / 8) ||| (1 <<< (i % 8)) = bvl (l.take (i + 1)) (i / 8) := by
        unfold g2
        rw [if_neg (by omega), show 4 + i / 8 - 4 = i / 8 by omega]
        exact bvl_or hp
      have e3 : IntKind.u8.wrap (1 * 2 ^ (min (((i % 8 : Nat) : Int)).toNat IntKind.u8.bits)) = ((1 <<< (i % 8) : Nat) : Int) := shl1 (by omega) (by omega)
      have e4 : IntKind.u8.wrap (((BitVec.ofInt IntKind.u8.bits (g2 l i (4 + i / 8) : Int) ||| BitVec.ofInt IntKind.u8.bits ((1 <<< (i % 8) : Nat) : Int)).toNat : Nat) : Int) = (bvl (l.take (i + 1)) (i / 8) : Int) :=
        or8 (g2_lt _ _ _) (shl_lt (s := ((i % 8 : Nat) : Int)) (by omega) (by omega)) hor
      rw [condT rfl, bindS (idx_get (by omega) (by rw [Int.toNat_natCast]; exact hg)), gdD (by omega), bindS (idx_get (by omega) (by rw [Int.toNat_natCast]; exact hg)), e3, e4,
        rng_set (g' := g2 l (i + 1)) (by unfold g2; rw [if_neg (by omega), show 4 + i / 8 - 4 = i / 8 by omega]) (fun q hq hne => by unfold g2; split; (rfl); (exact bvl_same hp (.inr (by omega))))]
      exact tree_Bytes_l1_eq k l hl d n (i + 1) (by omega) (by omega)
    | false =>
      rw [hb] at hp
      have : rng (4 + nb l) (g2 l i) = rng (4 + nb l) (g2 l (i + 1)) := rng_congr fun q hq => by unfold g2; split; (rfl); (exact (bvl_same hp (.inl rfl)).symm)
      rw [condF rfl, this]
      exact tree_Bytes_l1_eq k l hl d n (i + 1) (by omega) (by omega)
theorem tree_Bytes_eq (k : Nat) (l : List Bool) (hl : l.length ≤ 2147483648) (h4 : 4 < k) (hk : l.length < k) : tree_Bytes k l = some (bytesOf l) := by
  have hnb := nb_def l
  have e : wr (4 + wr ((wr (wr ((l.length : Int) + 8) - 1)).tdiv 8)) = ((4 + nb l : Nat) : Int) := by
    rw [wr_id (x := (l.length : Int) + 8) (by omega) (by omega), wr_id (x := (l.length : Int) + 8 - 1) (by omega) (by omega), Int.tdiv_eq_ediv_of_nonneg (by omega), wr_id (x := ((l.length : Int) + 8 - 1) / 8) (by omega) (by omega), wr_id (by omega) (by omega)]
    omega
  unfold tree_Bytes
  rw [e, gdD (by omega), Int.toNat_natCast, rep_rng (g := g1 l.length 0) (fun q hq => by unfold g1; rw [if_neg (by omega)])]
  have h0 : tree_Bytes_l0 k l k (rng (4 + nb l) (g1 l.length 0)) 0 = _ := tree_Bytes_l0_eq k l (by omega) 4 k 0 (by omega) (by omega)
  rw [bindS h0]
  have : rng (4 + nb l) (g1 l.length 4) = rng (4 + nb l) (g2 l 0) := rng_congr fun q hq => by unfold g1 g2; by_cases h : q < 4; (rw [if_pos h, if_pos h]); (rw [if_neg h, if_neg h]; rfl)
  rw [this]
  exact bindS (tree_Bytes_l1_eq k l (by omega) l.length k 0 (by omega) (by omega))
theorem tree_From_l0_eq (k : Nat) (b : List Int) (hB : Byt b) (hb : b.length ≤ 4294967296) : ∀ (d n i : Nat), i + d = min 4 b.length → d < n →
    tree_From_l0 k b n (leN b i : Int) (i : Int) = some (leN b (min 4 b.length) : Int)
  | d, 0, i, _, h => absurd h (by omega)
  | 0, n + 1, i, hi, _ => by
    obtain rfl : i = min 4 b.length := by omega
    rw [tree_From_l0, condN (by split <;> omega)]
  | d + 1, n + 1, i, hi, h => by
    have hlt : i < b.length := by omega
    have hp : b[i]? = some b[i] := List.getElem?_eq_getElem hlt
    have hpb := hB b[i] (List.getElem_mem hlt)
    have e1 : IntKind.u64.wrap (wr (8 * (i : Int))) = 8 * (i : Int) := by rw [wr_id (by omega) (by omega), wu_id (by omega) (by omega)]
    have e2 := or_le (k := (i : Int)) hB (by omega) (by omega) (by rw [Int.toNat_natCast]; exact hp)
    have e3 : IntKind.i64.wrap ((wr b[i]) * 2 ^ (min (8 * (i : Int)).toNat IntKind.i64.bits)) = b[i] * 2 ^ (8 * (i : Int)).toNat := by
      rw [wr_id (by omega) (by omega)]
      exact shl8 hpb (by omega) (by omega)
    rw [tree_From_l0, condD (by split <;> omega), bindS (idx_nat hlt), e1, gdD (by omega), e3, wr_succ (by omega)]
    rw [Int.toNat_natCast, show ((i : Int) + 1).toNat = i + 1 by omega] at e2
    rw [e2]
    exact tree_From_l0_eq k b hB hb d n (i + 1) (by omega) (by omega)
theorem tree_From_l1_eq (k : Nat) (b : List Int) (hB : Byt b) (m : Nat) (hm : m ≤ 4294967296) (hlen : b.length = 4 + (m + 7) / 8) : ∀ (d n i : Nat), i + d = m → d < n →
    tree_From_l1 k b (m : Int) n (ra m (fun q => if q < i then candAt b q else false)) (i : Int) = some (ra m (candAt b))
  | d, 0, i, _, h => absurd h (by omega)
  | 0, n + 1, i, hi, _ => by
    obtain rfl : i = m := by omega
    rw [tree_From_l1, condN (by simp)]
    congr 1
    exact ra_congr fun q hq => by rw [if_pos hq]
  | d + 1, n + 1, i, hi, h => by
    have e0 : (i : Int).tdiv 8 = ((i / 8 : Nat) : Int) := by rw [Int.tdiv_eq_ediv_of_nonneg (by omega)]; omega
    have e1 : wr (4 + wr ((i : Int).tdiv 8)) = ((4 + i / 8 : Nat) : Int) := by rw [e0, wr_id (x := ((i / 8 : Nat) : Int)) (by omega) (by omega), wr_id (by omega) (by omega)]; omega
    have e2 : IntKind.u64.wrap ((i : Int).tmod 8) = ((i % 8 : Nat) : Int) := by rw [Int.tmod_eq_emod_of_nonneg (by omega), wu_id (by omega) (by omega)]; omega
    have hlt : 4 + i / 8 < b.length := by omega
    have hc := hB _ (List.getElem_mem hlt)
    have hra : (ra m (fun q => if q < i then candAt b q else false))[i]? = some false := by
      have := ra_get (f := fun x => SV.v (.bool x)) (N := m) (g := fun q => if q < i then candAt b q else false) (j := i) (by omega)
      rw [List.getElem?_map] at this
      cases hq : (ra m (fun q => if q < i then candAt b q else false))[i]? with
      | none => rw [hq] at this; cases this
      | some y => rw [hq] at this; simp at this; simp [this]
    have e3 : (b[4 + i / 8]).fdiv (2 ^ (min (((i % 8 : Nat) : Int)).toNat IntKind.u8.bits)) = ((b[4 + i / 8].toNat >>> (i % 8) : Nat) : Int) := by
      have := shr8 (c := b[4 + i / 8]) (s := ((i % 8 : Nat) : Int)) hc.1 (by omega) (by omega)
      rwa [Int.toNat_natCast] at this ⊢
    have hs : b[4 + i / 8].toNat >>> (i % 8) < 256 := by
      rw [Nat.shiftRight_eq_div_pow]
      exact Nat.lt_of_le_of_lt (Nat.div_le_self _ _) (by omega)
    have e4 : (decide (IntKind.u8.wrap (((BitVec.ofInt IntKind.u8.bits ((b[4 + i / 8].toNat >>> (i % 8) : Nat) : Int) &&& BitVec.ofInt IntKind.u8.bits 1).toNat : Nat) : Int) = 1)) = candAt b i := by
      rw [and8 hs]
      unfold candAt
      rw [List.getD_eq_getElem?_getD, List.getElem?_eq_getElem hlt]
      simp only [Option.getD_some]
      rw [decide_eq_decide]
      omega
    have hlen2 : (List.replicate ((m : Int)).toNat false).length = m := by simp
    rw [tree_From_l1, condD (by rw [hlen2]; omega), e1, e2, bindS (idx_nat hlt), gdD (by omega), bindS (idx_get (by omega) (by rw [Int.toNat_natCast]; exact hra)), e3, e4, wr_succ (by omega), Int.toNat_natCast]
    have hset : (ra m (fun q => if q < i then candAt b q else false)).set i (candAt b i) = ra m (fun q => if q < i + 1 then candAt b q else false) := by
      apply List.ext_getElem?
      intro q
      rw [List.getElem?_set]
      unfold ra
      simp only [List.length_map, List.length_range, List.getElem?_map]
      by_cases hq : i = q
      · subst hq
        rw [if_pos rfl, if_pos (by omega), List.getElem?_range (by omega)]
        simp
      · rw [if_neg hq]
        rcases Nat.lt_or_ge q m with h2 | h2
        · rw [List.getElem?_range h2]
          simp only [Option.map_some]
          congr 1
          by_cases h3 : q < i
          · rw [if_pos h3, if_pos (by omega)]
          · rw [if_neg h3, if_neg (by omega)]
        · rw [List.getElem?_eq_none (by simpa using h2)]
          rfl
    rw [hset]
    exact tree_From_l1_eq k b hB m hm hlen d n (i + 1) (by omega) (by omega)
theorem bytes_Equal_eq (k : Nat) {a b : List Int} (ha : Byt a) (hb : Byt b) : bytes_Equal k a b = some (decide (a = b)) := by
  unfold bytes_Equal
  rw [strOf_inj ha hb]
theorem tree_From_eq (k : Nat) (b : List Int) (hB : Byt b) (hb : b.length ≤ 4294967296) (h4 : 4 < k) (hk : le32 b < k ∨ b.length < 4 ∨ 1048576 < le32 b ∨ b.length ≠ 4 + (le32 b + 7) / 8) : tree_From k b = some (fromR b) := by
  unfold tree_From
  have h0 : tree_From_l0 k b k 0 0 = _ := tree_From_l0_eq k b hB hb (min 4 b.length) k 0 (by omega) (by omega)
  rw [bindS h0]
  by_cases h1 : b.length < 4
  · rw [condD (by omega), bindS rfl, elim_rt, fromR_none (.inl h1)]
  · rw [condN (by omega), show min 4 b.length = 4 by omega]
    show Option.bind (cond (decide (1048576 < (le32 b : Int))) _ _) _ = _
    by_cases h2 : 1048576 < le32 b
    · rw [condD (by omega), bindS rfl, elim_rt, fromR_none (.inr (.inl h2))]
    · have e : wr (4 + wr ((wr (wr ((le32 b : Int) + 8) - 1)).tdiv 8)) = ((4 + (le32 b + 7) / 8 : Nat) : Int) := by
        rw [wr_id (x := (le32 b : Int) + 8) (by omega) (by omega), wr_id (x := (le32 b : Int) + 8 - 1) (by omega) (by omega), Int.tdiv_eq_ediv_of_nonneg (by omega), wr_id (x := ((le32 b : Int) + 8 - 1) / 8) (by omega) (by omega), wr_id (by omega) (by omega)]
        omega
      rw [condN (by omega)]
      show Option.bind (cond (!decide ((b.length : Int) = wr (4 + wr ((wr (wr ((le32 b : Int) + 8) - 1)).tdiv 8)))) _ _) _ = _
      rw [e]
      by_cases h3 : b.length = 4 + (le32 b + 7) / 8
      · rw [condF (by rw [decide_eq_true (by omega)]; rfl), bindS rfl, elim_go]
        show gd (decide ((0 : Int) ≤ (le32 b : Int) ∧ (le32 b : Int) ≤ 4294967296)) _ = _
        rw [gdD (by omega)]
        show Option.bind (tree_From_l1 k b (le32 b : Int) k (List.replicate ((le32 b : Int)).toNat false) 0) _ = _
        have e2 : List.replicate ((le32 b : Int)).toNat false = ra (le32 b) (fun q => if q < 0 then candAt b q else false) := by
          rw [Int.toNat_natCast]
          apply List.ext_getElem?
          intro q
          unfold ra
          rcases Nat.lt_or_ge q (le32 b) with h5 | h5
          · rw [List.getElem?_map, List.getElem?_range h5]
            simp [h5]
          · rw [List.getElem?_eq_none (by simpa using h5), List.getElem?_eq_none (by simpa using h5)]
        have hk' : le32 b < k := by omega
        have h1 : tree_From_l1 k b (le32 b : Int) k (ra (le32 b) (fun q => if q < 0 then candAt b q else false)) 0 = _ := tree_From_l1_eq k b hB (le32 b) (by omega) h3 (le32 b) k 0 (by omega) (by omega)
        rw [e2, bindS h1]
        have hc : (ra (le32 b) (candAt b)).length = le32 b := by simp [ra]
        rw [bindS (tree_Bytes_eq k (ra (le32 b) (candAt b)) (by omega) h4 (by omega))]
        rw [bindS (bytes_Equal_eq k (byt_of _) hB)]
        show cond (!decide (bytesOf (cand b) = b)) _ _ = _
        by_cases h6 : bytesOf (cand b) = b
        · rw [condF (by rw [decide_eq_true h6]; rfl), fromR_ok (by omega) h6]
          rfl
        · rw [condT (by rw [decide_eq_false h6]; rfl), fromR_ne h6]
      · rw [condT (by rw [decide_eq_false (by omega)]; rfl), bindS rfl, elim_rt, fromR_none (.inr (.inr h3))]
end Go.Px
