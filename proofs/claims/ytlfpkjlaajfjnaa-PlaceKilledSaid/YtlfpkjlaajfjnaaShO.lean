/- Strings: what printed walks need of them. -/
import Derived.Test.YtlfpkjlaajfjnaaShN
import Derived.Laws.Slices
set_option linter.unusedVariables false
set_option linter.unusedSimpArgs false
namespace Go.Sh
open Go.RowKit
def bytesI (s : ByteArray) : List Int := s.data.toList.map fun b => (b.toNat : Int)
section
variable {P : Program} {E : Operand → SV} {hp : Nat → Option Blk} {id : Nat} {t e tx dt sl : TypeId} {x lo ix : Operand} {k : IntKind} {i : Int} {s : ByteArray} {f : Int → SV} {m : List Int} {d : Bool} {u : SV}
theorem SrcS.strm (hk : P.underlying tx = some .string) (hf : ∀ n, f n = .v (.int .u8 n)) : SrcS P hp 1 d tx (.v (.string s)) ((bytesI s).map f) := by
  have : (bytesI s).map f = bytesSV s := by
    unfold bytesI bytesSV
    rw [List.map_map]
    exact List.map_congr_left fun b _ => hf _
  rw [this]
  exact .str hk rfl
theorem Op1.toStrm (hs : P.underlying sl = some (.slice e)) (he : P.underlying e = some (.int .u8)) (hd : P.underlying dt = some .string) (hx : E x = u) (h : SrcS P hp 1 d sl u (m.map f)) (hf : ∀ n, f n = .v (.int .u8 n)) : Op1 P E hp id (.convert sl dt x) (.v (.string (strOf m))) [] := by
  have : m.map f = m.map b8 := List.map_congr_left fun n _ => hf n
  rw [this] at h
  exact .toStr hs he hd hx h
theorem Op1.strL (hu : P.underlying t = some .string) (hx : E x = .v (.string s)) (hl : E lo = .v (.int k i)) (h : decide (0 ≤ i ∧ i ≤ (s.size : Int)) = true) : Op1 P E hp id (.slice t x (some lo) none none) (.v (.string (s.extract i.toNat s.size))) [] := by
  have h := of_decide_eq_true h
  refine .sliceV (lv := some (.int k i)) (hv := none) (mv := none) hx (by simp [hl]) rfl rfl (fun w => ?_) rfl
  rw [run_sliceAt_string w t _ _ _ _ hu]
  exact run_slice_string_l w t s hu k i h.1 h.2
theorem Op1.idxS {c : Int} (hu : P.underlying t = some .string) (hx : E x = .v (.string s)) (hi : E ix = .v (.int k i)) (h : idx (bytesI s) i = some c) : Op1 P E hp id (.index t x ix) (.v (.int .u8 c)) [] := by
  obtain ⟨h0, h1, h2⟩ := ixs h
  refine .index hx hi (fun w => ?_) rfl
  have hl : (bytesI s).length = s.size := by unfold bytesI; rw [List.length_map, Array.length_toList]; rfl
  rw [hl] at h2
  rw [run_index_string w t s k i hu, dif_pos ⟨h0, h2⟩]
  have hi' : i.toNat < s.data.size := by show i.toNat < s.size; omega
  have e : (s[i.toNat]'(by omega)).toNat = c := by
    unfold bytesI at h1
    rw [List.getElem?_map, Array.getElem?_toList, Array.getElem?_eq_getElem hi'] at h1
    have h3 : ((s.data[i.toNat]'hi').toNat : Int) = c := by simpa using h1
    exact h3
  rw [e]
end
theorem baeq (a b : ByteArray) : (a == b) = true ↔ a = b := by
  rw [beq_bl, decide_eq_true_eq]
  exact ⟨bl_inj, fun h => by rw [h]⟩
end Go.Sh
