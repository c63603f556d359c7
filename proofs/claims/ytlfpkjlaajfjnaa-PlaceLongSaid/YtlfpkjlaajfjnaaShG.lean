/- Loops: a state is brought back to its first form; short forms for results. -/
import Derived.Test.YtlfpkjlaajfjnaaShF
import Derived.Laws.StructEq
set_option linter.unusedVariables false
set_option linter.unusedSimpArgs false
namespace Go.Sh
open Go.RowKit

def Sub (cx : Cx) (st st' : St) : Prop := ∀ a w, Rel cx st a w → Rel cx st' a w

def rn1 (ρ : Nat → Nat) : SV → SV
  | .own b off len => .own (ρ b) off len
  | .ptr b off => .ptr (ρ b) off
  | .eptr b i off => .eptr (ρ b) i off
  | x => x
def rnC (ρ : Nat → Nat) : SV → SV
  | .agg cs => .agg (cs.map (rn1 ρ))
  | .clo f cs => .clo f (cs.map (rn1 ρ))
  | x => rn1 ρ x

def id1 (N : Nat) : SV → Bool
  | .own b _ _ => Nat.blt b N
  | .ptr b _ => Nat.blt b N
  | .eptr b _ _ => Nat.blt b N
  | .clo _ (_ :: _) | .agg _ | .tup _ => false
  | _ => true
def idC (N : Nat) : SV → Bool
  | .agg cs => cs.all (id1 N)
  | .clo _ cs => cs.all (id1 N)
  | .tup _ => false
  | x => id1 N x

def EnvOk (ρ : Nat → Nat) (N : Nat) (e : Env) : Env → Prop
  | [] => True
  | (t, x) :: r => (look t e = some (rnC ρ x) ∧ idC N x = true) ∧ EnvOk ρ N e r

def rnB (ρ : Nat → Nat) : Blk → Blk
  | .box cs => .box (cs.map (rnC ρ))
  | .arr false sz xs => .arr false sz xs
  | .arr true sz xs => .arr true sz (xs.map (rnC ρ))
def idB (N : Nat) : Blk → Prop
  | .box cs => cs.all (idC N) = true
  | .arr false _ _ => True
  | .arr true _ xs => ∀ x, x ∈ xs → idC N x = true

def HpOk (ρ : Nat → Nat) (N : Nat) (h : Hp) : Hp → Prop
  | [] => True
  | (b, some x) :: r => (Nat.blt b N = true ∧ hlook (ρ b) h = some (rnB ρ x) ∧ idB N x) ∧ HpOk ρ N h r
  | (_, none) :: _ => False

theorem id1_lt {N b : Nat} (h : Nat.blt b N = true) : b < N := Nat.le_of_ble_eq_true h

def mSub (m : Mp) (ρ : Nat → Nat) (N : Nat) : Mp := fun b => if b < N then m (ρ b) else none

theorem rn1_sound {w : World} {A : Nat → Prop} {m : Mp} {ρ : Nat → Nat} {N : Nat} {x : SV} (hi : id1 N x = true) {v : Value} (h : OneR w A m (rn1 ρ x) v) : OneR w A (mSub m ρ N) x v := by
  cases x with
  | own b off len =>
    have hb := id1_lt hi
    cases h with
    | own h1 h2 h3 h4 => exact .own (by simp only [mSub, hb, if_true]; exact h1) h2 h3 h4
    | own0 h => exact .own0 h
  | ptr b off =>
    have hb := id1_lt hi
    cases h with
    | ptr h1 => exact .ptr (by simp only [mSub, hb, if_true]; exact h1)
  | eptr b i off =>
    have hb := id1_lt hi
    cases h with
    | eptr h1 => exact .eptr (by simp only [mSub, hb, if_true]; exact h1)
  | v u => cases h with | v h => exact .v h
  | lst xs =>
    cases h with
    | nil => exact .nil
    | lst C hc hp hl hm hr => exact .lst C hc hp hl hm hr
  | rptr cs => cases h with | rptr C hm hr => exact .rptr C hm hr
  | clo f cs =>
    cases cs with
    | nil => cases h with | clo hl h => exact .clo hl (fun j y hy => by simp at hy)
    | cons => simp [id1] at hi
  | agg => cases h
  | tup => cases h
  | frs => cases h
  | junk => cases h

theorem rnC_sound1 {w : World} {A : Nat → Prop} {m : Mp} {ρ : Nat → Nat} {N : Nat} {x : SV} (hi : idC N x = true) {v : Value} (h : OneR w A m (rnC ρ x) v) : OneR w A (mSub m ρ N) x v := by
  cases x with
  | clo f cs =>
    cases h with
    | clo hl h =>
      rename_i vs
      refine .clo (by simpa using hl) fun j y hy => ?_
      exact rn1_sound (List.all_eq_true.1 hi y (List.mem_of_getElem? hy)) (h j (rn1 ρ y) (by simp [hy]))
  | agg cs => cases h
  | tup cs => simp [idC] at hi
  | v u => exact rn1_sound (x := .v u) hi h
  | lst xs => exact rn1_sound (x := .lst xs) hi h
  | rptr cs => exact rn1_sound (x := .rptr cs) hi h
  | own b off len => exact rn1_sound (x := .own b off len) hi h
  | ptr b off => exact rn1_sound (x := .ptr b off) hi h
  | eptr b i off => exact rn1_sound (x := .eptr b i off) hi h
  | frs sz xs => exact rn1_sound (x := .frs sz xs) hi h
  | junk => exact rn1_sound (x := .junk) hi h

theorem rnC_sound {w : World} {A : Nat → Prop} {m : Mp} {ρ : Nat → Nat} {N : Nat} {x : SV} (hi : idC N x = true) {v : Value} (h : VR w A m (rnC ρ x) v) : VR w A (mSub m ρ N) x v := by
  cases x with
  | agg cs =>
    cases h with
    | one h => cases h
    | agg hl h =>
      rename_i vs
      exact .agg (by simpa using hl) fun j y hy => rn1_sound (List.all_eq_true.1 hi y (List.mem_of_getElem? hy)) (h j (rn1 ρ y) (by simp [hy]))
  | junk => exact .junk
  | tup => simp [idC] at hi
  | v u => cases h with | one h => exact .one (rnC_sound1 (x := .v u) hi h)
  | lst xs => cases h with | one h => exact .one (rnC_sound1 (x := .lst xs) hi h)
  | rptr cs => cases h with | one h => exact .one (rnC_sound1 (x := .rptr cs) hi h)
  | own b off len => cases h with | one h => exact .one (rnC_sound1 (x := .own b off len) hi h)
  | ptr b off => cases h with | one h => exact .one (rnC_sound1 (x := .ptr b off) hi h)
  | eptr b i off => cases h with | one h => exact .one (rnC_sound1 (x := .eptr b i off) hi h)
  | frs sz xs => cases h with | one h => exact .one (rnC_sound1 (x := .frs sz xs) hi h)
  | clo f cs => cases h with | one h => exact .one (rnC_sound1 (x := .clo f cs) hi h)

theorem EnvOk.get {ρ : Nat → Nat} {N : Nat} {e : Env} : ∀ {r : Env}, EnvOk ρ N e r → ∀ t x, look t r = some x → look t e = some (rnC ρ x) ∧ idC N x = true
  | [], _, t, x, h => by simp [look] at h
  | (s, y) :: r, hr, t, x, h => by
    rw [look_cons] at h
    split at h
    · rename_i ht; subst ht; cases h; exact hr.1
    · exact EnvOk.get hr.2 t x h
theorem HpOk.get {ρ : Nat → Nat} {N : Nat} {h : Hp} : ∀ {r : Hp}, HpOk ρ N h r → ∀ b x, hlook b r = some x → b < N ∧ hlook (ρ b) h = some (rnB ρ x) ∧ idB N x
  | [], _, b, x, hb => by simp [hlook, look] at hb
  | (c, some y) :: r, hr, b, x, hb => by
    by_cases hc : b = c
    · subst hc
      unfold hlook at hb
      rw [look_cons, if_pos rfl] at hb
      cases hb
      exact ⟨id1_lt hr.1.1, hr.1.2⟩
    · refine HpOk.get hr.2 b x ?_
      unfold hlook at hb ⊢
      rwa [look_cons, if_neg hc] at hb
  | (_, none) :: _, hr, _, _, _ => hr.elim

theorem sub_of {cx : Cx} {st st' : St} (ρ : Nat → Nat) (hal : st'.al = []) (henv : EnvOk ρ st'.nx st.env st'.env) (hhp : HpOk ρ st'.nx st.heap st'.heap)
    (hinj : ∀ b b', b < st'.nx → b' < st'.nx → hlook b st'.heap ≠ none → hlook b' st'.heap ≠ none → ρ b = ρ b' → b = b') : Sub cx st st' := by
  rintro a w ⟨m, h⟩
  have hA : ∀ g, AOf cx st'.heap (mSub m ρ st'.nx) g → AOf cx st.heap m g := by
    rintro g (hg | ⟨b, x, s, hx, hs⟩)
    · exact .inl hg
    · obtain ⟨h1, h2, _⟩ := hhp.get b x hx
      simp only [mSub, h1, if_true] at hs
      exact .inr ⟨ρ b, _, s, h2, hs⟩
  have keep : ∀ {mm : Mp} {y : SV} {v : Value}, OneR w (AOf cx st.heap m) mm y v → OneR w (AOf cx st'.heap (mSub m ρ st'.nx)) mm y v := fun hv => hv.pure _ hA (fun _ _ h => h)
  have keepV : ∀ {mm : Mp} {y : SV} {v : Value}, VR w (AOf cx st.heap m) mm y v → VR w (AOf cx st'.heap (mSub m ρ st'.nx)) mm y v := fun hv => hv.mono (fun _ _ _ => rfl) (fun g hg => .inl (hA g hg)) (fun _ _ h => h) (fun _ _ h => h)
  refine ⟨mSub m ρ st'.nx, h.below, h.basele, h.bsmall, h.defs, h.size, ?_, ?_, ?_, ?_, ?_⟩
  · intro t x hx
    obtain ⟨h1, h2⟩ := henv.get t x hx
    exact keepV (rnC_sound h2 (h.env t _ h1))
  · intro b p hp
    simp only [mSub] at hp
    split at hp
    · exact ⟨.inl (by assumption), (h.dom _ p hp).2⟩
    · cases hp
  · intro b x hx
    exact .inl (hhp.get b x hx).1
  · intro b b' x y g s s' hx hy hs hs'
    obtain ⟨h1, h2, _⟩ := hhp.get b x hx
    obtain ⟨h3, h4, _⟩ := hhp.get b' y hy
    simp only [mSub, h1, h3, if_true] at hs hs'
    exact hinj b b' h1 h3 (by rw [hx]; simp) (by rw [hy]; simp) (h.inj _ _ _ _ g s s' h2 h4 hs hs')
  · intro b x hx
    obtain ⟨h1, h2, h3⟩ := hhp.get b x hx
    have hbr := h.hp _ _ h2
    cases x with
    | box cs =>
      obtain ⟨g, s, C, e, q1, q2, q3, q4⟩ := hbr
      refine ⟨g, s, C, e, by simp only [mSub, h1, if_true]; exact q1, q2, by simpa using q3, fun j y hy => ?_⟩
      exact keep (rnC_sound1 (List.all_eq_true.1 h3 y (List.mem_of_getElem? hy)) (q4 j (rnC ρ y) (by simp [hy])))
    | arr d sz xs =>
      cases d with
      | false =>
        obtain ⟨hp, ⟨q1, q2⟩ | ⟨g, C, e, q1, q2, q3, q4, q5⟩⟩ := hbr
        · exact ⟨hp, .inl ⟨by simp only [mSub, h1, if_true]; exact q1, q2⟩⟩
        · exact ⟨hp, .inr ⟨g, C, e, by simp only [mSub, h1, if_true]; exact q1, q2, q3, q4, fun i x j y hx hy => keep (q5 i x j y hx hy)⟩⟩
      | true =>
        have hcells : ∀ x : SV, idC st'.nx x = true → (rnC ρ x).cells = x.cells.map (rnC ρ) ∧ ∀ y, y ∈ x.cells → idC st'.nx y = true := by
          intro x hx
          cases x with
          | agg cs =>
            have hi := List.all_eq_true.1 hx
            refine ⟨?_, fun y hy => ?_⟩
            · show cs.map (rn1 ρ) = cs.map (rnC ρ)
              refine List.map_congr_left fun y hy => ?_
              have := hi y hy
              cases y with
              | agg cs => simp [id1] at this
              | clo f cs => cases cs with
                | nil => rfl
                | cons => simp [id1] at this
              | _ => rfl
            · have := hi y hy
              cases y with
              | agg cs => simp [id1] at this
              | clo f cs => cases cs with
                | nil => rfl
                | cons => simp [id1] at this
              | tup => simp [id1] at this
              | _ => exact this
          | tup => simp [idC] at hx
          | _ => exact ⟨rfl, fun y hy => by simp [SV.cells] at hy; rw [hy]; exact hx⟩
        obtain ⟨hp, ⟨q1, q2⟩ | ⟨g, C, e, q1, q2, q3, q4, q5⟩⟩ := hbr
        · exact ⟨hp, .inl ⟨by simp only [mSub, h1, if_true]; exact q1, by simpa using q2⟩⟩
        · refine ⟨hp, .inr ⟨g, C, e, by simp only [mSub, h1, if_true]; exact q1, q2, by simpa using q3, fun x hx => ?_, fun i x j y hx hy => ?_⟩⟩
          · have := q4 (rnC ρ x) (List.mem_map_of_mem hx)
            rw [(hcells x (h3 x hx)).1] at this
            simpa using this
          · have hxm := List.mem_of_getElem? hx
            obtain ⟨c1, c2⟩ := hcells x (h3 x hxm)
            have := q5 i (rnC ρ x) j (rnC ρ y) (by simp [hx]) (by rw [c1]; simp [hy])
            exact keep (rnC_sound1 (c2 y (List.mem_of_getElem? hy)) this)

theorem T.loopS {P : Program} {cx : Cx} {c : Code} {Q : Exit → St → Prop} {st : St} (I : Nat → St → Prop) (n : Nat) (h0 : ∃ s, I n s ∧ Sub cx st s) (round : ∀ n s, I n s → T P cx c (Th (fun st' => ∃ n', n' < n ∧ ∃ s', I n' s' ∧ Sub cx st' s') Q) s) : T P cx (.loop c) Q st := by
  refine T.loop (fun n st => ∃ s, I n s ∧ Sub cx st s) n h0 ?_
  rintro n st ⟨s, hI, hs⟩
  exact T.weaken hs (round n s hI)

theorem T.sub {P : Program} {cx : Cx} {c : Code} {Q : Exit → St → Prop} {st st' : St} (hs : Sub cx st st') (h : T P cx c Q st') : T P cx c Q st := T.weaken hs h

theorem w64 {x : Int} (h1 : -9223372036854775808 ≤ x) (h2 : x ≤ 9223372036854775807) : IntKind.i64.wrap x = x := by rw [IntKind.wrap_i64]; omega

theorem RetOk.v {P : Program} {al : Bool} {rs : Array ResultVar} {u r : Value} {st : St} {t : Tmp} (hrs : rs = #[.tmp t]) (hl : look t st.env = some (.v u)) (hu : u = r) : RetOk P rs al (.v r) st := by
  subst hrs hu
  exact ⟨⟨[.v u], [], ⟨hl, trivial⟩, rfl, rfl, fun i j b h => by simp at h, fun k x h => by simp [impT, impC, imp1] at h⟩⟩

theorem RetOk.frs {P : Program} {al : Bool} {rs : Array ResultVar} {st : St} {t : Tmp} {b n sz : Nat} {xs ys : List SV} (hrs : rs = #[.tmp t]) (hl : look t st.env = some (.own b 0 n)) (hb : hlook b st.heap = some (.arr false sz xs)) (hn : n = xs.length) (hx : xs = ys) : RetOk P rs al (.frs sz ys) st := by
  subst hrs hn hx
  refine ⟨⟨[.own b 0 xs.length], [some b], ⟨hl, trivial⟩, rfl, rfl, fun i j c hi hj => ?_, fun k x h => ?_⟩⟩
  · have := lt_of_get hi; have := lt_of_get hj; simp at *; omega
  · have := lt_of_get h
    have hk : k = 0 := by simp [impT, impC, imp1] at this; exact this
    subst hk
    simp [impT, impC, imp1] at h
    subst h
    exact hb

theorem RetOk.nil {P : Program} {al : Bool} {rs : Array ResultVar} {st : St} {t : Tmp} {sz : Nat} {ys : List SV} (hrs : rs = #[.tmp t]) (hl : look t st.env = some (.v (.slice none 0 0))) (hs : 0 < sz) (hx : ys = []) : RetOk P rs al (.frs sz ys) st := by
  subst hrs hx
  refine ⟨⟨[.v (.slice none 0 0)], [none], ⟨hl, trivial⟩, ⟨rfl, rfl, rfl⟩, rfl, fun i j c hi hj => ?_, fun k x h => ?_⟩⟩
  · have := lt_of_get hi
    have hi0 : i = 0 := by simpa using this
    subst hi0
    simp at hi
  · have := lt_of_get h
    have hk : k = 0 := by simp [impT, impC, imp1] at this; exact this
    subst hk
    simp [impT, impC, imp1] at h
    subst h
    exact ⟨sz, rfl, hs⟩

/-! ### A type's facts out of its row -/
abbrev InfoIs (P : Program) (t : TypeId) (z : Value) (sz by_ : Nat) : Prop := (P.info? t).map (fun i => (i.zero, i.size, i.bytes)) = some (some z, sz, by_)
theorem InfoIs.get {P : Program} {t : TypeId} {z : Value} {sz by_ : Nat} (h : InfoIs P t z sz by_) : ∃ i, P.info? t = some i ∧ i.zero = some z ∧ i.size = sz ∧ i.bytes = by_ := by
  unfold InfoIs at h
  cases hq : P.info? t with
  | none => simp [hq] at h
  | some i =>
    simp only [hq, Option.map_some, Option.some.injEq, Prod.mk.injEq] at h
    exact ⟨i, rfl, h.1, h.2.1, h.2.2⟩
theorem InfoIs.zero {P : Program} {t : TypeId} {z : Value} {sz by_ : Nat} (h : InfoIs P t z sz by_) : (P.info? t).bind (fun i => i.zero) = some z := by
  obtain ⟨i, h1, h2, _⟩ := h.get
  simp [h1, h2]
theorem InfoIs.sz {P : Program} {t : TypeId} {z : Value} {sz by_ : Nat} (h : InfoIs P t z sz by_) : (P.info? t).map (·.size) = some sz := by
  obtain ⟨i, h1, _, h3, _⟩ := h.get
  simp [h1, h3]
theorem Ty.of {P : Program} {t : TypeId} {d : TypeDesc} {z : Value} {sz by_ : Nat} {agg : Bool} (hd : (match d with | .struct _ | .array _ _ => true | _ => false) = agg) (hu : P.underlying t = some d) (h : InfoIs P t z sz by_) : Ty P t sz agg := ⟨⟨d, hu, hd⟩, h.sz⟩
theorem Sl.of {P : Program} {t e : TypeId} {z : Value} {sz by_ : Nat} (hu : P.underlying t = some (.slice e)) (h : InfoIs P e z sz by_) (h1 : 0 < sz) (h2 : z.cells.size = sz) (h4 : by_ ≤ 1024) : Sl P t e sz := by
  obtain ⟨i, e1, e2, e3, e4⟩ := h.get
  exact ⟨hu, h.sz, h1, ⟨z, by simp [e1, e2], h2⟩, ⟨by_, by simp [e1, e4], h4⟩⟩
theorem Fld.of {P : Program} {s ft : TypeId} {fs : Array Field} {f k by_ : Nat} {z : Value} {n : Nat} (hu : P.underlying s = some (.struct fs)) (hf : (fs[f]?).map (fun d => (d.offset, d.type)) = some (k, ft)) (h : InfoIs P ft z (n + 1) by_) : Fld P s f k := by
  cases hq : fs[f]? with
  | none => simp [hq] at hf
  | some d =>
    simp only [hq, Option.map_some, Option.some.injEq, Prod.mk.injEq] at hf
    exact ⟨fs, d, hu, hq, hf.1, n, by rw [hf.2]; exact h.sz⟩
theorem Ar.of {P : Program} {t e : TypeId} {n sz by_ : Nat} {z : Value} (hu : P.underlying t = some (.array n e)) (h : InfoIs P e z sz by_) : Ar P t n sz := ⟨e, hu, h.sz⟩

end Go.Sh

namespace Go.Sh
open Go.RowKit
/-- A struct type for its literals. -/
structure Bu (P : Program) (t : TypeId) (places : List (Nat × Nat)) (zs : List SV) : Prop where
  out : ∃ fs z, P.underlying t = some (.struct fs) ∧ fs.toList.mapM (fun f => (P.info? f.type).map fun i => (f.offset, i.size)) = some places ∧ (P.info? t).bind (fun i => i.zero) = some z ∧ ofConst z = .agg zs
theorem Bu.of {P : Program} {t : TypeId} {fs : Array Field} {places : List (Nat × Nat)} {z : Value} {sz by_ : Nat} {zs : List SV} (hu : P.underlying t = some (.struct fs)) (h : InfoIs P t z sz by_) (hp : fs.toList.mapM (fun f => (P.info? f.type).map fun i => (f.offset, i.size)) = some places) (hz : ofConst z = .agg zs) : Bu P t places zs :=
  ⟨fs, z, hu, hp, h.zero, hz⟩
theorem Op1.bu {P : Program} {E : Operand → SV} {hp : Nat → Option Blk} {id : Nat} {t : TypeId} {parts : Array (Nat × Operand)} {zs r : List SV} {places : List (Nat × Nat)} (h : Bu P t places zs)
    (hf : fillS (places.toArray[·]?) zs (parts.toList.map fun p => (p.1, E p.2)) = some r) : Op1 P E hp id (.build t parts) (.agg r) [] := by
  obtain ⟨fs, z, h1, h2, h3, h4⟩ := h.out
  exact .build h1 h2 h3 h4 hf

theorem len_nil {P : Program} {ts : Array TypeId} {t e ty : TypeId} (ht : ts[0]? = some t) (hu : P.underlying t = some (.slice e)) (w : World) : (Builtin.len_ ts ty #[.slice none 0 0]).run P w = .ok (.int .i64 0) w := by
  simp [Builtin.len_, ht, run_underlying hu, goInt]
theorem len_str {P : Program} {ts : Array TypeId} {t ty : TypeId} {s : ByteArray} (ht : ts[0]? = some t) (hu : P.underlying t = some .string) (w : World) : (Builtin.len_ ts ty #[.string s]).run P w = .ok (.int .i64 s.size) w := by
  simp [Builtin.len_, ht, run_underlying hu, goInt]

theorem get_map {α : Type} {f : α → SV} {l : List α} {i : Nat} (h : i < l.length) : (l.map f)[((i : Nat) : Int).toNat]? = some (f l[i]) := by simp [h]
end Go.Sh

/-! ### '==' of structs -/
namespace Go.Sh
section
variable {P : Program} {d : Nat} {xs ys : Array Value} {f : Field} {fs : List Field} {a b : Value} {r s : Bool} {w : World}
theorem eqf_last (hn : (f.name == "_") = false) (ha : (part f.type xs f.offset).run P w = .ok a w) (hb : (part f.type ys f.offset).run P w = .ok b w) (he : (Op.equalIn d f.type a b).run P w = .ok r w) : (Op.eqFields d xs ys [f]).run P w = .ok r w := by
  have hn' : f.name ≠ "_" := by simpa using hn
  simp only [Op.eqFields, if_pos hn', Sem.run_bind, ha, hb, he, Result.andThen_ok]
  cases r <;> simp
theorem eqf_cons (hn : (f.name == "_") = false) (ha : (part f.type xs f.offset).run P w = .ok a w) (hb : (part f.type ys f.offset).run P w = .ok b w) (he : (Op.equalIn d f.type a b).run P w = .ok r w) (hr : (Op.eqFields d xs ys fs).run P w = .ok s w) : (Op.eqFields d xs ys (f :: fs)).run P w = .ok (r && s) w := by
  have hn' : f.name ≠ "_" := by simpa using hn
  rw [Op.eqFields]
  simp only [if_pos hn', Sem.run_bind, ha, hb, he, Result.andThen_ok]
  cases r
  · simp
  · simpa using hr
theorem eqA_of {t : TypeId} {fs : Array Field} (hu : P.underlying t = some (.struct fs)) (hp : P.stoodInHeld t = false) (h : (Op.eqFields d xs ys fs.toList).run P w = .ok r w) : (Op.equalIn (d + 1) t (.agg xs) (.agg ys)).run P w = .ok r w := by
  have hf : P.fieldsOf t = fs := by simp [Program.fieldsOf, hu]
  rw [run_equalIn_struct (P := P) w d t xs ys (by rw [hf]; exact hu) hp, hf]
  exact h
theorem part_one {t : TypeId} {sz o : Nat} {v : Value} {cs : Array Value} (h : Ty P t sz false) (hc : cs[o]? = some v) : (part t cs o).run P w = .ok v w := by
  simp [part, h.run_isAgg, hc]
theorem part_agg {t : TypeId} {sz o : Nat} {cs : Array Value} (h : Ty P t sz true) : (part t cs o).run P w = .ok (.agg (cs.extract o (o + sz))) w := by
  simp [part, h.run_isAgg, h.run_sizeOf]
theorem eqIn_int {t : TypeId} {k k' : IntKind} {x y : Int} (hu : P.underlying t = some (.int k')) : (Op.equalIn (d + 1) t (.int k x) (.int k y)).run P w = .ok (x == y) w := by
  simp [Op.equalIn, run_underlying hu]
theorem eqIn_str {t : TypeId} {x y : ByteArray} (hu : P.underlying t = some .string) : (Op.equalIn (d + 1) t (.string x) (.string y)).run P w = .ok (x == y) w := by
  simp [Op.equalIn, run_underlying hu]
theorem eqG_of {t : TypeId} {x y : Operand} (hg : P.eqGuardType P.depth t = false) : (eqGuard .eql t x y (.agg xs) (.agg ys)).run P w = .ok () w := by
  simp [eqGuard, hg]
theorem eqG_of' {t : TypeId} {x y : Operand} (hg : P.eqGuardType P.depth t = false) : (eqGuard .neq t x y (.agg xs) (.agg ys)).run P w = .ok () w := by
  simp [eqGuard, hg]
theorem eqB_of {t : TypeId} {x y : Operand} (hg : P.eqGuardType P.depth t = false) (h : (Op.equalIn 10000 t (.agg xs) (.agg ys)).run P w = .ok r w) : (binS .eql t x y (.agg xs) (.agg ys)).run P w = .ok (.bool r) w := by
  unfold binS
  rw [Sem.run_bind, eqG_of hg]
  simp only [Result.andThen_ok, binOp, Op.equal, Op.maxDepth]
  rw [Sem.run_bind, h]
  rfl
theorem neB_of {t : TypeId} {x y : Operand} (hg : P.eqGuardType P.depth t = false) (h : (Op.equalIn 10000 t (.agg xs) (.agg ys)).run P w = .ok r w) : (binS .neq t x y (.agg xs) (.agg ys)).run P w = .ok (.bool !r) w := by
  unfold binS
  rw [Sem.run_bind, eqG_of' hg]
  simp only [Result.andThen_ok, binOp, Op.equal, Op.maxDepth]
  rw [Sem.run_bind, h]
  rfl
end
end Go.Sh
