/- More ends of functions; strings. -/
import Derived.Test.YtlfpkjlaajfjnaaShH
import Derived.Laws.StructEq
import Derived.Laws.Concat
import Derived.MapKept
set_option linter.unusedVariables false
set_option linter.unusedSimpArgs false
namespace Go.Sh
open Go.RowKit

theorem RetOk.vv {P : Program} {al : Bool} {rs : Array ResultVar} {u1 u2 r1 r2 : Value} {st : St} {t1 t2 : Tmp} (hrs : rs = #[.tmp t1, .tmp t2]) (h1 : look t1 st.env = some (.v u1)) (h2 : look t2 st.env = some (.v u2)) (e1 : u1 = r1) (e2 : u2 = r2) : RetOk P rs al (.tup [.v r1, .v r2]) st := by
  subst hrs e1 e2
  exact ⟨⟨[.v u1, .v u2], [], ⟨h1, h2, trivial⟩, ⟨rfl, rfl, trivial⟩, rfl, fun i j b h => by simp at h, fun k x h => by simp [impT, impL, impC, imp1] at h⟩⟩
theorem RetOk.fv {P : Program} {al : Bool} {rs : Array ResultVar} {st : St} {t t2 : Tmp} {b n sz : Nat} {xs ys : List SV} {u r : Value} (hrs : rs = #[.tmp t, .tmp t2]) (hl : look t st.env = some (.own b 0 n)) (hb : hlook b st.heap = some (.arr false sz xs)) (h2 : look t2 st.env = some (.v u)) (hn : n = xs.length) (hx : xs = ys) (hu : u = r) :
    RetOk P rs al (.tup [.frs sz ys, .v r]) st := by
  subst hrs hn hx hu
  refine ⟨⟨[.own b 0 xs.length, .v u], [some b], ⟨hl, h2, trivial⟩, ⟨rfl, rfl, trivial⟩, rfl, fun i j c hi hj => ?_, fun k x h => ?_⟩⟩
  · have := lt_of_get hi; have := lt_of_get hj; simp at *; omega
  · have := lt_of_get h
    have hk : k = 0 := by simp [impT, impL, impC, imp1] at this; exact this
    subst hk
    simp [impT, impL, impC, imp1] at h
    subst h
    exact hb
theorem RetOk.nv {P : Program} {al : Bool} {rs : Array ResultVar} {st : St} {t t2 : Tmp} {sz : Nat} {ys : List SV} {u r : Value} (hrs : rs = #[.tmp t, .tmp t2]) (hl : look t st.env = some (.v (.slice none 0 0))) (h2 : look t2 st.env = some (.v u)) (hs : 0 < sz) (hx : ys = []) (hu : u = r) :
    RetOk P rs al (.tup [.frs sz ys, .v r]) st := by
  subst hrs hx hu
  refine ⟨⟨[.v (.slice none 0 0), .v u], [none], ⟨hl, h2, trivial⟩, ⟨⟨rfl, rfl, rfl⟩, rfl, trivial⟩, rfl, fun i j c hi hj => ?_, fun k x h => ?_⟩⟩
  · have := lt_of_get hi
    have hi0 : i = 0 := by simpa using this
    subst hi0
    simp at hi
  · have := lt_of_get h
    have hk : k = 0 := by simp [impT, impL, impC, imp1] at this; exact this
    subst hk
    simp [impT, impL, impC, imp1] at h
    subst h
    exact ⟨sz, rfl, hs⟩

/-! ### Strings -/
theorem eqStr {P : Program} {t : TypeId} {x y : Operand} {a b : ByteArray} (w : World) : (binS .eql t x y (.string a) (.string b)).run P w = .ok (.bool (a == b)) w := by
  rw [beq_toListBytes]
  simp [binS, eqGuard, binOp, Op.stringOp]
theorem neStr {P : Program} {t : TypeId} {x y : Operand} {a b : ByteArray} (w : World) : (binS .neq t x y (.string a) (.string b)).run P w = .ok (.bool (!(a == b))) w := by
  rw [beq_toListBytes]
  simp [binS, eqGuard, binOp, Op.stringOp]
theorem addStr {P : Program} {t : TypeId} {x y : Operand} {a b : ByteArray} (h : a.size + b.size ≤ 9223372036854775807) (w : World) : (binS .add t x y (.string a) (.string b)).run P w = .ok (.string (a ++ b)) w := by
  simp [binS, eqGuard, binOp, run_string_add_sum w a b h]

/-- Bytes as a list of numbers. -/
def bl (s : ByteArray) : List Nat := s.data.toList.map UInt8.toNat
theorem strOf_push : ∀ (ns : List Int) (r : ByteArray), (ns.foldl (fun r n => r.push (UInt8.ofNat n.toNat)) r).data.toList = r.data.toList ++ ns.map (fun n => UInt8.ofNat n.toNat)
  | [], r => by simp
  | n :: ns, r => by
    rw [List.foldl_cons, strOf_push ns]
    simp [ByteArray.push]
theorem bl_strOf {ns : List Int} (h : ∀ n, n ∈ ns → 0 ≤ n ∧ n < 256) : bl (strOf ns) = ns.map Int.toNat := by
  unfold bl strOf
  rw [strOf_push]
  rw [show ByteArray.empty.data.toList = [] from rfl, List.nil_append, List.map_map]
  refine List.map_congr_left fun n hn => ?_
  have := h n hn
  simp only [Function.comp, UInt8.toNat_ofNat']
  omega
theorem bl_inj {a b : ByteArray} (h : bl a = bl b) : a = b := by
  obtain ⟨⟨a⟩⟩ := a
  obtain ⟨⟨b⟩⟩ := b
  unfold bl at h
  simp only at h
  congr 2
  have : ∀ (x y : List UInt8), x.map UInt8.toNat = y.map UInt8.toNat → x = y := by
    intro x
    induction x with
    | nil => intro y hy; cases y with
      | nil => rfl
      | cons => simp at hy
    | cons a r ih => intro y hy; cases y with
      | nil => simp at hy
      | cons b s =>
        simp only [List.map_cons, List.cons.injEq] at hy
        rw [ih s hy.2, UInt8.toNat_inj.1 hy.1]
  exact this _ _ h
theorem bl_append (a b : ByteArray) : bl (a ++ b) = bl a ++ bl b := by
  unfold bl
  simp [ByteArray.data_append]
theorem bl_len (a : ByteArray) : (bl a).length = a.size := by
  unfold bl
  rw [List.length_map, Array.length_toList]
  rfl
theorem beq_bl (a b : ByteArray) : (a == b) = decide (bl a = bl b) := by
  rw [Bool.eq_iff_iff, MapKept.bytes_beq, decide_eq_true_iff]
  exact ⟨fun h => by rw [h], bl_inj⟩
end Go.Sh
namespace Go.Sh
theorem flat_tup2 {a b : SV} (h1 : FlatC a) (h2 : FlatC b) : FlatT (.tup [a, b]) := by
  intro y hy
  rcases List.mem_cons.1 hy with rfl | hy
  · exact h1
  · rcases List.mem_cons.1 hy with rfl | hy
    · exact h2
    · exact (List.not_mem_nil hy).elim
theorem flat_frs {α : Type} {sz : Nat} {f : α → SV} {l : List α} (h : ∀ a, ∀ y, y ∈ (f a).cells → flat1 y = true) : FlatT (.frs sz (l.map f)) := by
  intro x hx
  obtain ⟨a, _, rfl⟩ := List.mem_map.1 hx
  exact h a
theorem flat_frsC {α : Type} {sz : Nat} {f : α → SV} {l : List α} (h : ∀ a, ∀ y, y ∈ (f a).cells → flat1 y = true) : FlatC (.frs sz (l.map f)) := by
  intro x hx
  obtain ⟨a, _, rfl⟩ := List.mem_map.1 hx
  exact h a
theorem flat_lone {u : Value} : ∀ y, y ∈ (SV.v u).cells → flat1 y = true := by
  intro y hy
  rcases List.mem_cons.1 hy with rfl | hy
  · rfl
  · exact (List.not_mem_nil hy).elim
end Go.Sh
namespace Go.Sh
open Go.RowKit
section
variable {P : Program} {t : TypeId} {x y : Operand} {k : IntKind} {a b r : Int} (w : World)
theorem b_or' (h : k.wrap ((BitVec.ofInt k.bits a ||| BitVec.ofInt k.bits b).toNat : Int) = r) : (binS .or t x y (.int k a) (.int k b)).run P w = .ok (.int k r) w := by
  rw [← h]; simp [binS, eqGuard, binOp, Op.intBits]
theorem b_and' (h : k.wrap ((BitVec.ofInt k.bits a &&& BitVec.ofInt k.bits b).toNat : Int) = r) : (binS .and t x y (.int k a) (.int k b)).run P w = .ok (.int k r) w := by
  rw [← h]; simp [binS, eqGuard, binOp, Op.intBits]
theorem b_xor' (h : k.wrap ((BitVec.ofInt k.bits a ^^^ BitVec.ofInt k.bits b).toNat : Int) = r) : (binS .xor t x y (.int k a) (.int k b)).run P w = .ok (.int k r) w := by
  rw [← h]; simp [binS, eqGuard, binOp, Op.intBits]
theorem b_shl' {k' : IntKind} (hb : 0 ≤ b) (h : k.wrap (a * 2 ^ (min b.toNat k.bits)) = r) : (binS .shl t x y (.int k a) (.int k' b)).run P w = .ok (.int k r) w := by rw [← h]; exact b_shl w hb
theorem b_shr' {k' : IntKind} (hb : 0 ≤ b) (h : a.fdiv (2 ^ (min b.toNat k.bits)) = r) : (binS .shr t x y (.int k a) (.int k' b)).run P w = .ok (.int k r) w := by rw [← h]; exact b_shr w hb
theorem c_int' {s d : TypeId} {k' : IntKind} (hs : ∃ e, P.underlying s = some e) (hd : P.underlying d = some (.int k')) (h : k'.wrap a = r) : (convert s d (.int k a)).run P w = .ok (.int k' r) w := by rw [← h]; exact c_int w hs hd
end
theorem ofInt_nat {n a : Nat} (h : a < 2 ^ n) : (BitVec.ofInt n (a : Int)).toNat = a := by
  rw [BitVec.ofInt_natCast, BitVec.toNat_ofNat, Nat.mod_eq_of_lt h]
theorem or_nat {n a b : Nat} (ha : a < 2 ^ n) (hb : b < 2 ^ n) : (BitVec.ofInt n (a : Int) ||| BitVec.ofInt n (b : Int)).toNat = a ||| b := by
  rw [BitVec.toNat_or, ofInt_nat ha, ofInt_nat hb]
theorem and_nat {n a b : Nat} (ha : a < 2 ^ n) (hb : b < 2 ^ n) : (BitVec.ofInt n (a : Int) &&& BitVec.ofInt n (b : Int)).toNat = a &&& b := by
  rw [BitVec.toNat_and, ofInt_nat ha, ofInt_nat hb]
theorem xor_nat {n a b : Nat} (ha : a < 2 ^ n) (hb : b < 2 ^ n) : (BitVec.ofInt n (a : Int) ^^^ BitVec.ofInt n (b : Int)).toNat = a ^^^ b := by
  rw [BitVec.toNat_xor, ofInt_nat ha, ofInt_nat hb]
theorem wu8 {x : Int} (h1 : 0 ≤ x) (h2 : x ≤ 255) : IntKind.u8.wrap x = x := by rw [IntKind.wrap_u8]; omega
theorem wu64 {x : Int} (h1 : 0 ≤ x) (h2 : x ≤ 18446744073709551615) : IntKind.u64.wrap x = x := by rw [IntKind.wrap_u64]; omega
theorem wu32 {x : Int} (h1 : 0 ≤ x) (h2 : x ≤ 4294967295) : IntKind.u32.wrap x = x := by rw [IntKind.wrap_u32]; omega
theorem strOf_append (a b : List Int) : strOf (a ++ b) = strOf a ++ strOf b := by
  have e : ∀ x y : ByteArray, x.data.toList = y.data.toList → x = y := by
    rintro ⟨⟨x⟩⟩ ⟨⟨y⟩⟩ h
    simp only at h
    rw [h]
  apply e
  rw [ByteArray.data_append, Array.toList_append]
  unfold strOf
  rw [strOf_push, strOf_push, strOf_push]
  simp
end Go.Sh
namespace Go.Sh
theorem strOf_size (ns : List Int) : (strOf ns).size = ns.length := by
  have h : (strOf ns).data.toList.length = ns.length := by
    unfold strOf
    rw [strOf_push, show ByteArray.empty.data.toList = [] from rfl]
    simp
  rw [Array.length_toList] at h
  exact h
end Go.Sh
namespace Go.Sh
/-- A list by its places. -/
def ra {α : Type} (N : Nat) (g : Nat → α) : List α := (List.range N).map g
theorem ra_len {α : Type} {f : α → SV} (N : Nat) (g : Nat → α) : ((ra N g).map f).length = N := by simp [ra]
theorem ra_get {α : Type} {f : α → SV} {N : Nat} {g : Nat → α} {j : Nat} (h : j < N) : ((ra N g).map f)[j]? = some (f (g j)) := by simp [ra, h]
theorem ra_set {α : Type} {f : α → SV} {N : Nat} {g g' : Nat → α} {j : Nat} {y : SV} (h1 : f (g' j) = y) (h : ∀ q, q < N → q ≠ j → g' q = g q) : ((ra N g).map f).set j y = (ra N g').map f := by
  apply List.ext_getElem?
  intro q
  rw [List.getElem?_set]
  split
  · rename_i hq
    subst hq
    rw [ra_len]
    split
    · rename_i hq; rw [ra_get hq, h1]
    · rename_i hq; rw [List.getElem?_eq_none (by rw [ra_len]; omega)]
  · rename_i hq
    rcases Nat.lt_or_ge q N with hl | hl
    · rw [ra_get hl, ra_get hl, h q hl (fun e => hq e.symm)]
    · rw [List.getElem?_eq_none (by rw [ra_len]; omega), List.getElem?_eq_none (by rw [ra_len]; omega)]
theorem ra_congr {α : Type} {N : Nat} {g g' : Nat → α} (h : ∀ q, q < N → g q = g' q) : ra N g = ra N g' := by
  unfold ra
  refine List.map_congr_left fun q hq => ?_
  rw [h q (List.mem_range.1 hq)]
theorem ra_rep {α : Type} {f : α → SV} {N : Nat} {g : Nat → α} {y : SV} (h : ∀ q, q < N → f (g q) = y) : List.replicate N y = (ra N g).map f := by
  apply List.ext_getElem?
  intro q
  rcases Nat.lt_or_ge q N with hl | hl
  · rw [ra_get hl, h q hl]
    simp [hl]
  · rw [List.getElem?_eq_none (by simpa using hl), List.getElem?_eq_none (by rw [ra_len]; omega)]
theorem strOf_inj {a b : List Int} (ha : ∀ n, n ∈ a → 0 ≤ n ∧ n < 256) (hb : ∀ n, n ∈ b → 0 ≤ n ∧ n < 256) : (strOf a == strOf b) = decide (a = b) := by
  rw [beq_bl, bl_strOf ha, bl_strOf hb]
  rw [decide_eq_decide]
  constructor
  · intro h
    have : ∀ (x y : List Int), (∀ n, n ∈ x → 0 ≤ n ∧ n < 256) → (∀ n, n ∈ y → 0 ≤ n ∧ n < 256) → x.map Int.toNat = y.map Int.toNat → x = y := by
      intro x
      induction x with
      | nil => intro y _ _ e; cases y with
        | nil => rfl
        | cons => simp at e
      | cons p x ih => intro y hx hy e; cases y with
        | nil => simp at e
        | cons q y =>
          simp only [List.map_cons, List.cons.injEq] at e
          have h1 := hx p (by simp)
          have h2 := hy q (by simp)
          rw [ih y (fun n hn => hx n (by simp [hn])) (fun n hn => hy n (by simp [hn])) e.2, show p = q by omega]
    exact this a b ha hb h
  · intro h
    rw [h]
end Go.Sh
namespace Go.Sh
open Go.RowKit
theorem idxStr {P : Program} {t : TypeId} {k : IntKind} {i c : Int} {b : List Int} (hu : P.underlying t = some .string) (hB : ∀ n, n ∈ b → 0 ≤ n ∧ n < 256) (h0 : 0 ≤ i) (hc : b[i.toNat]? = some c) (w : World) :
    (Instr.index t (.string (strOf b)) (.int k i)).run P w = .ok (.int .u8 c) w := by
  have hd : (strOf b).data.toList = b.map fun n => UInt8.ofNat n.toNat := by
    unfold strOf
    rw [strOf_push, show ByteArray.empty.data.toList = [] from rfl, List.nil_append]
  have hlt := lt_of_get hc
  have hsz := strOf_size b
  have hi : i.toNat < (strOf b).size := by omega
  have h1 : (strOf b).data.toList[i.toNat]? = some (UInt8.ofNat c.toNat) := by rw [hd]; simp [hc]
  have h2 : (strOf b)[i.toNat] = UInt8.ofNat c.toNat := by
    rw [Array.getElem?_toList] at h1
    have hi' : i.toNat < (strOf b).data.size := hi
    rw [Array.getElem?_eq_getElem hi'] at h1
    exact Option.some.inj h1
  have hcb := hB c (List.mem_of_getElem? hc)
  rw [run_index_string w t _ k i hu, dif_pos ⟨h0, by omega⟩, h2]
  have e : ((UInt8.ofNat c.toNat).toNat : Int) = c := by rw [UInt8.toNat_ofNat']; omega
  rw [e]
theorem ra_succ {α : Type} {f : α → SV} {n : Nat} {g : Nat → α} {y : SV} (h : f (g n) = y) : (ra n g).map f ++ [y] = (ra (n + 1) g).map f := by
  unfold ra
  rw [List.range_succ, List.map_append, List.map_append, ← h]
  rfl
end Go.Sh
