/- What the functions that the laws of this seat reach compute: one contract each. -/
import Derived.Test.YtijfhnpmdhonhaaTy
set_option linter.unusedVariables false
set_option linter.unusedSimpArgs false
set_option maxRecDepth 100000
namespace Go.Proofs.Ytijfhnpmdhonhaa
open Go Go.Sh
attribute [local irreducible] Go.Sh.T Go.Sh.RunT Go.Sh.RunD

structure Pty where
  s : Int
  w : Int
deriving DecidableEq
def Pty.may (p : Pty) : Bool := decide (1 ≤ p.s ∧ p.s ≤ 8 ∧ 0 ≤ p.w ∧ p.w ≤ 2 ∧ 2 * p.w ≤ p.s)
def pS (p : Pty) : SV := .agg [.v (.int .i64 p.s), .v (.int .i64 p.w)]
def allP (l : List Pty) : Bool := decide (l.length ≤ 512) && l.all Pty.may
def sumS (l : List Pty) : Int := (l.map Pty.s).sum
def sumP (l : List Pty) : Int := if allP l = true then sumS l else 0
def firstI {α : Type} (f : α → Bool) (l : List α) : Int := match l.findIdx? f with | some i => (i : Int) | none => -1
theorem gm {α : Type} {l : List α} {f : α → SV} {i : Int} (h0 : 0 ≤ i) (h1 : i < (l.length : Int)) : ∃ p, l[i.toNat]? = some p ∧ (l.map f)[i.toNat]? = some (f p) := by
  have h : i.toNat < l.length := by omega
  exact ⟨l[i.toNat], List.getElem?_eq_getElem h, by simp [List.getElem?_eq_getElem h]⟩
theorem firstI_some {α : Type} {f : α → Bool} {l : List α} {i : Int} {p : α} (h0 : 0 ≤ i) (h : l[i.toNat]? = some p) (hf : f p = true) (hn : ∀ (j : Nat) q, (j : Int) < i → l[j]? = some q → f q = false) : firstI f l = i := by
  unfold firstI
  obtain ⟨h1, rfl⟩ := List.getElem?_eq_some_iff.1 h
  rw [(List.findIdx?_eq_some_iff_getElem).2 ⟨h1, hf, fun j hj => by simpa using hn j _ (by omega) (List.getElem?_eq_getElem (by omega))⟩]
  show ((i.toNat : Nat) : Int) = i
  omega
theorem firstI_none {α : Type} {f : α → Bool} {l : List α} (hn : ∀ (j : Nat) q, l[j]? = some q → f q = false) : firstI f l = -1 := by
  unfold firstI
  rw [List.findIdx?_eq_none_iff.2 fun x hx => by obtain ⟨j, hj⟩ := List.getElem?_of_mem hx; simpa using hn j _ hj]
theorem firstI_nonneg {α : Type} (f : α → Bool) (l : List α) : decide (0 ≤ firstI f l) = l.any f := by
  unfold firstI
  cases h : l.findIdx? f with
  | none =>
    have h1 := List.findIdx?_eq_none_iff.1 h
    have : l.any f = false := by rw [List.any_eq_false]; intro x hx; simpa using h1 x hx
    rw [this]; decide
  | some i =>
    obtain ⟨h1, h2, _⟩ := List.findIdx?_eq_some_iff_getElem.1 h
    have : l.any f = true := List.any_eq_true.2 ⟨_, List.getElem_mem h1, h2⟩
    rw [this]; simp
theorem sumS_take {l : List Pty} {i : Int} {p : Pty} (h0 : 0 ≤ i) (h : l[i.toNat]? = some p) : sumS (l.take (i + 1).toNat) = sumS (l.take i.toNat) + p.s := by
  have e : (i + 1).toNat = i.toNat + 1 := by omega
  obtain ⟨h1, rfl⟩ := List.getElem?_eq_some_iff.1 h
  unfold sumS
  rw [e, List.take_succ_eq_append_getElem h1, List.map_append, List.sum_append]
  simp
theorem bd {a b : Prop} {_ : Decidable a} {_ : Decidable b} (h : a ↔ b) : Value.bool (decide a) = Value.bool (decide b) := by rw [decide_eq_decide.2 h]
theorem bt {b : Prop} {_ : Decidable b} (h : b) : Value.bool true = Value.bool (decide b) := by rw [decide_eq_true h]
theorem bf {b : Prop} {_ : Decidable b} (h : ¬ b) : Value.bool false = Value.bool (decide b) := by rw [decide_eq_false h]
theorem allP_get {l : List Pty} (h : allP l = true) : l.length ≤ 512 ∧ ∀ (j : Nat) p, l[j]? = some p → p.may = true := by
  unfold allP at h
  simp only [Bool.and_eq_true, decide_eq_true_eq, List.all_eq_true] at h
  exact ⟨h.1, fun j p hp => h.2 p (List.mem_of_getElem? hp)⟩
theorem may_get {p : Pty} (h : p.may = true) : 1 ≤ p.s ∧ p.s ≤ 8 ∧ 0 ≤ p.w ∧ p.w ≤ 2 := by
  unfold Pty.may at h
  simp at h
  omega
theorem not_any (l : List Pty) : (!l.any fun p => !p.may) = l.all Pty.may := by
  induction l with
  | nil => rfl
  | cons a r ih => simp only [List.any_cons, List.all_cons, Bool.not_or, Bool.not_not, ih]
theorem eq_of_get {α : Type} {a b : List α} (hl : a.length = b.length) (h : ∀ (j : Nat) x y, a[j]? = some x → b[j]? = some y → x = y) : a = b := by
  apply List.ext_getElem hl
  intro i h1 h2
  exact h i _ _ (List.getElem?_eq_getElem h1) (List.getElem?_eq_getElem h2)
theorem eq23 {a b c d : Int} (w : World) : (Op.equalIn 10000 23 (.agg #[.int .i64 a, .int .i64 b]) (.agg #[.int .i64 c, .int .i64 d])).run Try.prog w = .ok (a == c && b == d) w :=
  eqA_of Try.underlying23 (by kernel_rfl) (eqf_cons rfl (part_one ty3 rfl) (part_one ty3 rfl) (eqIn_int Try.underlying3) (eqf_last rfl (part_one ty3 rfl) (part_one ty3 rfl) (eqIn_int Try.underlying3)))
theorem ne23 (p q : Pty) {x y : Operand} (w : World) : (binS .neq 23 x y (.agg #[.int .i64 p.s, .int .i64 p.w]) (.agg #[.int .i64 q.s, .int .i64 q.w])).run Try.prog w = .ok (.bool (!decide (p = q))) w := by
  rw [neB_of (by kernel_rfl) (eq23 w)]
  congr 3
  obtain ⟨a, b⟩ := p
  obtain ⟨c, d⟩ := q
  by_cases h1 : a = c <;> by_cases h2 : b = d <;> simp [h1, h2]

theorem may_pc (p : Pty) : PC Try.prog false 15 [pS p] (.v (.bool (p.may))) := by
  refine PC.of_T Try.func15 rfl rfl (n := 26) rfl rfl (.inr rfl) ?_
  intro base B w0
  refine T.seq ?_
  refine T.region ?_
  refine RunT.op0 rfl rfl rfl rfl (.box rfl rfl) ?_
  refine RunT.op0 rfl rfl rfl rfl .assign ?_
  refine RunT.nil ?_
  refine T.seq ?_
  refine T.block ?_
  refine T.seq ?_
  refine T.block ?_
  refine T.block ?_
  refine T.block ?_
  refine T.seq ?_
  refine T.seq ?_
  refine T.seq ?_
  refine T.region ?_
  refine RunT.op0 rfl rfl rfl rfl (by first | exact .fieldP fl23_0 rfl | exact .fieldR fl23_0 rfl | exact .fieldE fl23_0 rfl) ?_
  refine RunT.op0 rfl rfl rfl rfl (by first | exact .loadP ty3 rfl rfl rfl | exact .loadR ty3 rfl rfl | exact .loadE ty3 rfl rfl (by assumption) rfl) ?_
  refine RunT.op0 rfl rfl rfl rfl (.bin rfl rfl (fun w => b_lss w) rfl) ?_
  refine RunT.op0 rfl rfl rfl rfl .assign ?_
  refine RunT.nil ?_
  refine T.cond2 rfl (fun c3 => ?_) (fun c3 => ?_)
  · have c3p := c3; (try simp only [decide_eq_true_eq, decide_eq_false_iff_not, Bool.not_eq_true', Bool.not_eq_false', Bool.and_eq_true, Bool.or_eq_true] at c3p)
    refine T.exit ?_
    refine T.seq ?_
    refine T.seq ?_
    refine T.region ?_
    refine RunT.op0 rfl rfl rfl rfl .assign ?_
    refine RunT.nil ?_
    refine T.ret ?_
    exact RetOk.v rfl rfl (by first | exact bd (by omega) | exact bf (by omega) | exact bt (by omega))
  · have c3p := c3; (try simp only [decide_eq_true_eq, decide_eq_false_iff_not, Bool.not_eq_true', Bool.not_eq_false', Bool.and_eq_true, Bool.or_eq_true] at c3p)
    refine T.skip ?_
    refine T.seq ?_
    refine T.seq ?_
    refine T.region ?_
    refine RunT.op0 rfl rfl rfl rfl (by first | exact .fieldP fl23_0 rfl | exact .fieldR fl23_0 rfl | exact .fieldE fl23_0 rfl) ?_
    refine RunT.op0 rfl rfl rfl rfl (by first | exact .loadP ty3 rfl rfl rfl | exact .loadR ty3 rfl rfl | exact .loadE ty3 rfl rfl (by assumption) rfl) ?_
    refine RunT.op0 rfl rfl rfl rfl (.bin rfl rfl (fun w => b_gtr w) rfl) ?_
    refine RunT.op0 rfl rfl rfl rfl .assign ?_
    refine RunT.nil ?_
    refine T.cond2 rfl (fun c7 => ?_) (fun c7 => ?_)
    · have c7p := c7; (try simp only [decide_eq_true_eq, decide_eq_false_iff_not, Bool.not_eq_true', Bool.not_eq_false', Bool.and_eq_true, Bool.or_eq_true] at c7p)
      refine T.exit ?_
      refine T.seq ?_
      refine T.seq ?_
      refine T.region ?_
      refine RunT.op0 rfl rfl rfl rfl .assign ?_
      refine RunT.nil ?_
      refine T.ret ?_
      exact RetOk.v rfl rfl (by first | exact bd (by omega) | exact bf (by omega) | exact bt (by omega))
    · have c7p := c7; (try simp only [decide_eq_true_eq, decide_eq_false_iff_not, Bool.not_eq_true', Bool.not_eq_false', Bool.and_eq_true, Bool.or_eq_true] at c7p)
      refine T.skip ?_
      refine T.seq ?_
      refine T.region ?_
      refine RunT.op0 rfl rfl rfl rfl (by first | exact .fieldP fl23_1 rfl | exact .fieldR fl23_1 rfl | exact .fieldE fl23_1 rfl) ?_
      refine RunT.op0 rfl rfl rfl rfl (by first | exact .loadP ty3 rfl rfl rfl | exact .loadR ty3 rfl rfl | exact .loadE ty3 rfl rfl (by assumption) rfl) ?_
      refine RunT.op0 rfl rfl rfl rfl (.bin rfl rfl (fun w => b_lss w) rfl) ?_
      refine RunT.op0 rfl rfl rfl rfl .assign ?_
      refine RunT.nil ?_
      refine T.cond2 rfl (fun c11 => ?_) (fun c11 => ?_)
      · have c11p := c11; (try simp only [decide_eq_true_eq, decide_eq_false_iff_not, Bool.not_eq_true', Bool.not_eq_false', Bool.and_eq_true, Bool.or_eq_true] at c11p)
        refine T.exit ?_
        refine T.seq ?_
        refine T.seq ?_
        refine T.region ?_
        refine RunT.op0 rfl rfl rfl rfl .assign ?_
        refine RunT.nil ?_
        refine T.ret ?_
        exact RetOk.v rfl rfl (by first | exact bd (by omega) | exact bf (by omega) | exact bt (by omega))
      · have c11p := c11; (try simp only [decide_eq_true_eq, decide_eq_false_iff_not, Bool.not_eq_true', Bool.not_eq_false', Bool.and_eq_true, Bool.or_eq_true] at c11p)
        refine T.skip ?_
        refine T.exit ?_
        refine T.seq ?_
        refine T.region ?_
        refine RunT.op0 rfl rfl rfl rfl (by first | exact .fieldP fl23_1 rfl | exact .fieldR fl23_1 rfl | exact .fieldE fl23_1 rfl) ?_
        refine RunT.op0 rfl rfl rfl rfl (by first | exact .loadP ty3 rfl rfl rfl | exact .loadR ty3 rfl rfl | exact .loadE ty3 rfl rfl (by assumption) rfl) ?_
        refine RunT.op0 rfl rfl rfl rfl (.bin rfl rfl (fun w => b_leq w) rfl) ?_
        refine RunT.op0 rfl rfl rfl rfl .move ?_
        refine RunT.cases (t := 18) rfl (fun g18 => ?_) (fun g18 => ?_)
        · have g18p := g18; (try simp only [decide_eq_true_eq, decide_eq_false_iff_not, Bool.not_eq_true', Bool.not_eq_false', Bool.and_eq_true, Bool.or_eq_true] at g18p)
          refine RunT.opg rfl rfl rfl (bo g18) rfl rfl (by first | exact .fieldP fl23_1 rfl | exact .fieldR fl23_1 rfl | exact .fieldE fl23_1 rfl) ?_
          refine RunT.opg rfl rfl rfl (bo g18) rfl rfl (by first | exact .loadP ty3 rfl rfl rfl | exact .loadR ty3 rfl rfl | exact .loadE ty3 rfl rfl (by assumption) rfl) ?_
          refine RunT.opg rfl rfl rfl (bo g18) rfl rfl (.bin rfl rfl (fun w => b_mul' w (w64 (by omega) (by omega))) rfl) ?_
          refine RunT.opg rfl rfl rfl (bo g18) rfl rfl (by first | exact .fieldP fl23_0 rfl | exact .fieldR fl23_0 rfl | exact .fieldE fl23_0 rfl) ?_
          refine RunT.opg rfl rfl rfl (bo g18) rfl rfl (by first | exact .loadP ty3 rfl rfl rfl | exact .loadR ty3 rfl rfl | exact .loadE ty3 rfl rfl (by assumption) rfl) ?_
          refine RunT.opg rfl rfl rfl (bo g18) rfl rfl (.bin rfl rfl (fun w => b_leq w) rfl) ?_
          refine RunT.op0 rfl rfl rfl rfl (.pick (bo g18)) ?_
          refine RunT.op0 rfl rfl rfl rfl .assign ?_
          refine RunT.nil ?_
          refine T.ret ?_
          exact RetOk.v rfl rfl (by first | exact bd (by omega) | exact bf (by omega) | exact bt (by omega))
        · have g18p := g18; (try simp only [decide_eq_true_eq, decide_eq_false_iff_not, Bool.not_eq_true', Bool.not_eq_false', Bool.and_eq_true, Bool.or_eq_true] at g18p)
          refine RunT.no rfl rfl rfl (bo g18) rfl ?_
          refine RunT.no rfl rfl rfl (bo g18) rfl ?_
          refine RunT.no rfl rfl rfl (bo g18) rfl ?_
          refine RunT.no rfl rfl rfl (bo g18) rfl ?_
          refine RunT.no rfl rfl rfl (bo g18) rfl ?_
          refine RunT.no rfl rfl rfl (bo g18) rfl ?_
          refine RunT.op0 rfl rfl rfl rfl (.pick (bo g18)) ?_
          refine RunT.op0 rfl rfl rfl rfl .assign ?_
          refine RunT.nil ?_
          refine T.ret ?_
          exact RetOk.v rfl rfl (by first | exact bd (by omega) | exact bf (by omega) | exact bt (by omega))

theorem rmay_pc (p : Pty) : PC Try.prog false 16 [pS p] (.v (.bool (p.may))) := by
  refine PC.of_T Try.func16 rfl rfl (n := 31) rfl rfl (.inr rfl) ?_
  intro base B w0
  refine T.seq ?_
  refine T.region ?_
  refine RunT.op0 rfl rfl rfl rfl (.box rfl rfl) ?_
  refine RunT.op0 rfl rfl rfl rfl .assign ?_
  refine RunT.nil ?_
  refine T.seq ?_
  refine T.region ?_
  refine RunT.op0 rfl rfl rfl rfl (by first | exact .fieldP fl23_0 rfl | exact .fieldR fl23_0 rfl | exact .fieldE fl23_0 rfl) ?_
  refine RunT.op0 rfl rfl rfl rfl (by first | exact .loadP ty3 rfl rfl rfl | exact .loadR ty3 rfl rfl | exact .loadE ty3 rfl rfl (by assumption) rfl) ?_
  refine RunT.op0 rfl rfl rfl rfl (.bin rfl rfl (fun w => b_geq w) rfl) ?_
  refine RunT.op0 rfl rfl rfl rfl .move ?_
  refine RunT.cases (t := 6) rfl (fun g6 => ?_) (fun g6 => ?_)
  · have g6p := g6; (try simp only [decide_eq_true_eq, decide_eq_false_iff_not, Bool.not_eq_true', Bool.not_eq_false', Bool.and_eq_true, Bool.or_eq_true] at g6p)
    refine RunT.opg rfl rfl rfl (bo g6) rfl rfl (by first | exact .fieldP fl23_0 rfl | exact .fieldR fl23_0 rfl | exact .fieldE fl23_0 rfl) ?_
    refine RunT.opg rfl rfl rfl (bo g6) rfl rfl (by first | exact .loadP ty3 rfl rfl rfl | exact .loadR ty3 rfl rfl | exact .loadE ty3 rfl rfl (by assumption) rfl) ?_
    refine RunT.opg rfl rfl rfl (bo g6) rfl rfl (.bin rfl rfl (fun w => b_leq w) rfl) ?_
    refine RunT.op0 rfl rfl rfl rfl (.pick (bo g6)) ?_
    refine RunT.op0 rfl rfl rfl rfl .move ?_
    refine RunT.cases (t := 11) rfl (fun g11 => ?_) (fun g11 => ?_)
    · have g11p := g11; (try simp only [decide_eq_true_eq, decide_eq_false_iff_not, Bool.not_eq_true', Bool.not_eq_false', Bool.and_eq_true, Bool.or_eq_true] at g11p)
      refine RunT.opg rfl rfl rfl (bo g11) rfl rfl (by first | exact .fieldP fl23_1 rfl | exact .fieldR fl23_1 rfl | exact .fieldE fl23_1 rfl) ?_
      refine RunT.opg rfl rfl rfl (bo g11) rfl rfl (by first | exact .loadP ty3 rfl rfl rfl | exact .loadR ty3 rfl rfl | exact .loadE ty3 rfl rfl (by assumption) rfl) ?_
      refine RunT.opg rfl rfl rfl (bo g11) rfl rfl (.bin rfl rfl (fun w => b_geq w) rfl) ?_
      refine RunT.op0 rfl rfl rfl rfl (.pick (bo g11)) ?_
      refine RunT.op0 rfl rfl rfl rfl .move ?_
      refine RunT.cases (t := 16) rfl (fun g16 => ?_) (fun g16 => ?_)
      · have g16p := g16; (try simp only [decide_eq_true_eq, decide_eq_false_iff_not, Bool.not_eq_true', Bool.not_eq_false', Bool.and_eq_true, Bool.or_eq_true] at g16p)
        refine RunT.opg rfl rfl rfl (bo g16) rfl rfl (by first | exact .fieldP fl23_1 rfl | exact .fieldR fl23_1 rfl | exact .fieldE fl23_1 rfl) ?_
        refine RunT.opg rfl rfl rfl (bo g16) rfl rfl (by first | exact .loadP ty3 rfl rfl rfl | exact .loadR ty3 rfl rfl | exact .loadE ty3 rfl rfl (by assumption) rfl) ?_
        refine RunT.opg rfl rfl rfl (bo g16) rfl rfl (.bin rfl rfl (fun w => b_leq w) rfl) ?_
        refine RunT.op0 rfl rfl rfl rfl (.pick (bo g16)) ?_
        refine RunT.op0 rfl rfl rfl rfl .move ?_
        refine RunT.cases (t := 21) rfl (fun g21 => ?_) (fun g21 => ?_)
        · have g21p := g21; (try simp only [decide_eq_true_eq, decide_eq_false_iff_not, Bool.not_eq_true', Bool.not_eq_false', Bool.and_eq_true, Bool.or_eq_true] at g21p)
          refine RunT.opg rfl rfl rfl (bo g21) rfl rfl (by first | exact .fieldP fl23_1 rfl | exact .fieldR fl23_1 rfl | exact .fieldE fl23_1 rfl) ?_
          refine RunT.opg rfl rfl rfl (bo g21) rfl rfl (by first | exact .loadP ty3 rfl rfl rfl | exact .loadR ty3 rfl rfl | exact .loadE ty3 rfl rfl (by assumption) rfl) ?_
          refine RunT.opg rfl rfl rfl (bo g21) rfl rfl (by first | exact .fieldP fl23_0 rfl | exact .fieldR fl23_0 rfl | exact .fieldE fl23_0 rfl) ?_
          refine RunT.opg rfl rfl rfl (bo g21) rfl rfl (by first | exact .loadP ty3 rfl rfl rfl | exact .loadR ty3 rfl rfl | exact .loadE ty3 rfl rfl (by assumption) rfl) ?_
          refine RunT.opg rfl rfl rfl (bo g21) rfl rfl (by first | exact .fieldP fl23_1 rfl | exact .fieldR fl23_1 rfl | exact .fieldE fl23_1 rfl) ?_
          refine RunT.opg rfl rfl rfl (bo g21) rfl rfl (by first | exact .loadP ty3 rfl rfl rfl | exact .loadR ty3 rfl rfl | exact .loadE ty3 rfl rfl (by assumption) rfl) ?_
          refine RunT.opg rfl rfl rfl (bo g21) rfl rfl (.bin rfl rfl (fun w => b_sub' w (w64 (by omega) (by omega))) rfl) ?_
          refine RunT.opg rfl rfl rfl (bo g21) rfl rfl (.bin rfl rfl (fun w => b_leq w) rfl) ?_
          refine RunT.op0 rfl rfl rfl rfl (.pick (bo g21)) ?_
          refine RunT.op0 rfl rfl rfl rfl .assign ?_
          refine RunT.nil ?_
          refine T.ret ?_
          exact RetOk.v rfl rfl (by first | exact bd (by omega) | exact bf (by omega) | exact bt (by omega))
        · have g21p := g21; (try simp only [decide_eq_true_eq, decide_eq_false_iff_not, Bool.not_eq_true', Bool.not_eq_false', Bool.and_eq_true, Bool.or_eq_true] at g21p)
          refine RunT.no rfl rfl rfl (bo g21) rfl ?_
          refine RunT.no rfl rfl rfl (bo g21) rfl ?_
          refine RunT.no rfl rfl rfl (bo g21) rfl ?_
          refine RunT.no rfl rfl rfl (bo g21) rfl ?_
          refine RunT.no rfl rfl rfl (bo g21) rfl ?_
          refine RunT.no rfl rfl rfl (bo g21) rfl ?_
          refine RunT.no rfl rfl rfl (bo g21) rfl ?_
          refine RunT.no rfl rfl rfl (bo g21) rfl ?_
          refine RunT.op0 rfl rfl rfl rfl (.pick (bo g21)) ?_
          refine RunT.op0 rfl rfl rfl rfl .assign ?_
          refine RunT.nil ?_
          refine T.ret ?_
          exact RetOk.v rfl rfl (by first | exact bd (by omega) | exact bf (by omega) | exact bt (by omega))
      · have g16p := g16; (try simp only [decide_eq_true_eq, decide_eq_false_iff_not, Bool.not_eq_true', Bool.not_eq_false', Bool.and_eq_true, Bool.or_eq_true] at g16p)
        refine RunT.no rfl rfl rfl (bo g16) rfl ?_
        refine RunT.no rfl rfl rfl (bo g16) rfl ?_
        refine RunT.no rfl rfl rfl (bo g16) rfl ?_
        refine RunT.op0 rfl rfl rfl rfl (.pick (bo g16)) ?_
        refine RunT.op0 rfl rfl rfl rfl .move ?_
        refine RunT.no rfl rfl rfl rfl rfl ?_
        refine RunT.no rfl rfl rfl rfl rfl ?_
        refine RunT.no rfl rfl rfl rfl rfl ?_
        refine RunT.no rfl rfl rfl rfl rfl ?_
        refine RunT.no rfl rfl rfl rfl rfl ?_
        refine RunT.no rfl rfl rfl rfl rfl ?_
        refine RunT.no rfl rfl rfl rfl rfl ?_
        refine RunT.no rfl rfl rfl rfl rfl ?_
        refine RunT.op0 rfl rfl rfl rfl (.pick rfl) ?_
        refine RunT.op0 rfl rfl rfl rfl .assign ?_
        refine RunT.nil ?_
        refine T.ret ?_
        exact RetOk.v rfl rfl (by first | exact bd (by omega) | exact bf (by omega) | exact bt (by omega))
    · have g11p := g11; (try simp only [decide_eq_true_eq, decide_eq_false_iff_not, Bool.not_eq_true', Bool.not_eq_false', Bool.and_eq_true, Bool.or_eq_true] at g11p)
      refine RunT.no rfl rfl rfl (bo g11) rfl ?_
      refine RunT.no rfl rfl rfl (bo g11) rfl ?_
      refine RunT.no rfl rfl rfl (bo g11) rfl ?_
      refine RunT.op0 rfl rfl rfl rfl (.pick (bo g11)) ?_
      refine RunT.op0 rfl rfl rfl rfl .move ?_
      refine RunT.no rfl rfl rfl rfl rfl ?_
      refine RunT.no rfl rfl rfl rfl rfl ?_
      refine RunT.no rfl rfl rfl rfl rfl ?_
      refine RunT.op0 rfl rfl rfl rfl (.pick rfl) ?_
      refine RunT.op0 rfl rfl rfl rfl .move ?_
      refine RunT.no rfl rfl rfl rfl rfl ?_
      refine RunT.no rfl rfl rfl rfl rfl ?_
      refine RunT.no rfl rfl rfl rfl rfl ?_
      refine RunT.no rfl rfl rfl rfl rfl ?_
      refine RunT.no rfl rfl rfl rfl rfl ?_
      refine RunT.no rfl rfl rfl rfl rfl ?_
      refine RunT.no rfl rfl rfl rfl rfl ?_
      refine RunT.no rfl rfl rfl rfl rfl ?_
      refine RunT.op0 rfl rfl rfl rfl (.pick rfl) ?_
      refine RunT.op0 rfl rfl rfl rfl .assign ?_
      refine RunT.nil ?_
      refine T.ret ?_
      exact RetOk.v rfl rfl (by first | exact bd (by omega) | exact bf (by omega) | exact bt (by omega))
  · have g6p := g6; (try simp only [decide_eq_true_eq, decide_eq_false_iff_not, Bool.not_eq_true', Bool.not_eq_false', Bool.and_eq_true, Bool.or_eq_true] at g6p)
    refine RunT.no rfl rfl rfl (bo g6) rfl ?_
    refine RunT.no rfl rfl rfl (bo g6) rfl ?_
    refine RunT.no rfl rfl rfl (bo g6) rfl ?_
    refine RunT.op0 rfl rfl rfl rfl (.pick (bo g6)) ?_
    refine RunT.op0 rfl rfl rfl rfl .move ?_
    refine RunT.no rfl rfl rfl rfl rfl ?_
    refine RunT.no rfl rfl rfl rfl rfl ?_
    refine RunT.no rfl rfl rfl rfl rfl ?_
    refine RunT.op0 rfl rfl rfl rfl (.pick rfl) ?_
    refine RunT.op0 rfl rfl rfl rfl .move ?_
    refine RunT.no rfl rfl rfl rfl rfl ?_
    refine RunT.no rfl rfl rfl rfl rfl ?_
    refine RunT.no rfl rfl rfl rfl rfl ?_
    refine RunT.op0 rfl rfl rfl rfl (.pick rfl) ?_
    refine RunT.op0 rfl rfl rfl rfl .move ?_
    refine RunT.no rfl rfl rfl rfl rfl ?_
    refine RunT.no rfl rfl rfl rfl rfl ?_
    refine RunT.no rfl rfl rfl rfl rfl ?_
    refine RunT.no rfl rfl rfl rfl rfl ?_
    refine RunT.no rfl rfl rfl rfl rfl ?_
    refine RunT.no rfl rfl rfl rfl rfl ?_
    refine RunT.no rfl rfl rfl rfl rfl ?_
    refine RunT.no rfl rfl rfl rfl rfl ?_
    refine RunT.op0 rfl rfl rfl rfl (.pick rfl) ?_
    refine RunT.op0 rfl rfl rfl rfl .assign ?_
    refine RunT.nil ?_
    refine T.ret ?_
    exact RetOk.v rfl rfl (by first | exact bd (by omega) | exact bf (by omega) | exact bt (by omega))

theorem notmay_pc (p : Pty) : PC Try.prog false 41 [pS p] (.v (.bool (!p.may))) := by
  refine PC.of_T Try.func41 rfl rfl (n := 6) rfl rfl (.inr rfl) ?_
  intro base B w0
  refine T.seq ?_
  refine T.region ?_
  refine RunT.op0 rfl rfl rfl rfl (.box rfl rfl) ?_
  refine RunT.op0 rfl rfl rfl rfl .assign ?_
  refine RunT.nil ?_
  refine T.seq ?_
  refine T.region ?_
  refine RunT.op0 rfl rfl rfl rfl (by first | exact .loadP ty23 rfl rfl rfl | exact .loadR ty23 rfl rfl | exact .loadE ty23 rfl rfl (by assumption) rfl) ?_
  refine RunT.call0 rfl rfl rfl rfl rfl rfl (may_pc p) (by repeat (first | exact trivial | refine ⟨?_, ?_⟩ | exact .one .v | exact .one .lst | exact .one .rptr | exact .one (.all rfl rfl) | exact .one .nil | exact .agg' (by repeat (first | exact trivial | refine ⟨?_, ?_⟩ | exact .v | exact .lst | exact .rptr | exact .all rfl rfl | exact .nil | exact .clo' trivial)) | exact .one (.clo' (by repeat (first | exact trivial | refine ⟨?_, ?_⟩ | exact .v | exact .lst | exact .rptr | exact .all rfl rfl | exact .nil | exact .clo' trivial))) | exact .one (.ptr' rfl (by repeat (first | exact trivial | refine ⟨?_, ?_⟩ | exact .v | exact .lst | exact .rptr | exact .all rfl rfl | exact .nil | exact .clo' trivial))))) (Nat.le_of_ble_eq_true rfl) ?_
  refine RunT.op0 rfl rfl rfl rfl (.un rfl (fun w => u_not w) rfl) ?_
  refine RunT.op0 rfl rfl rfl rfl .assign ?_
  refine RunT.nil ?_
  refine T.ret ?_
  exact RetOk.v rfl rfl rfl

theorem idx_pc (f : FuncId) (F : Pty → Bool) (l : List Pty) (hb : l.length ≤ 4294967296) (hf : ∀ p, PC Try.prog false f [pS p] (.v (.bool (F p)))) : PC Try.prog false 55 [.lst (l.map pS), .clo f []] (.v (.int .i64 (firstI F l))) := by
  have hlen : (l.map pS).length = l.length := List.length_map ..
  refine PC.of_T Try.func55 rfl rfl (n := 19) rfl rfl (.inr rfl) ?_
  intro base B w0
  refine T.seq ?_
  refine T.region ?_
  refine RunT.op0 rfl rfl rfl rfl .assign ?_
  refine RunT.nil ?_
  refine T.seq ?_
  refine T.seq ?_
  refine T.region ?_
  refine RunT.op0 rfl rfl rfl rfl .move ?_
  refine RunT.op0 rfl rfl rfl rfl (by first | exact .lenL Try.underlying24 rfl rfl | exact .lenO Try.underlying24 rfl rfl | exact .lenV rfl (fun _ w => len_nil rfl Try.underlying24 w) rfl) ?_
  refine RunT.op0 rfl rfl rfl rfl .move ?_
  refine RunT.nil ?_
  refine T.block ?_
  refine T.loopS (fun n s => ∃ i : Int, n = ((l.length : Int) - i).toNat ∧ 0 ≤ i ∧ i ≤ (l.length : Int) ∧ (∀ (j : Nat) q, (j : Int) < i → l[j]? = some q → F q = false) ∧ s = ⟨[(0, .lst (l.map pS)), (1, .clo f []), (7, .v (.int .i64 ((l.map pS).length))), (8, .v (.int .i64 i))], [], 0, []⟩) (_) ⟨_, ⟨0, rfl, by omega, by omega, (by intro j q hj; omega), rfl⟩, (sub_of (fun b => b) rfl (by repeat (first | exact trivial | exact ⟨rfl, rfl⟩ | refine ⟨?_, ?_⟩)) (by repeat (first | exact trivial | exact ⟨rfl, rfl, trivial⟩ | exact ⟨rfl, rfl, rfl⟩ | refine ⟨?_, ?_⟩)) (fun _ _ _ _ _ _ h => h))⟩ ?_
  rintro n s ⟨i, rfl, h0, h1, h2, rfl⟩
  refine T.seq ?_
  refine T.region ?_
  refine RunT.op0 rfl rfl rfl rfl (.bin rfl rfl (fun w => b_lss w) rfl) ?_
  refine RunT.nil ?_
  refine T.seq ?_
  refine T.cond2 rfl (fun c9 => ?_) (fun c9 => ?_)
  · have c9p := c9; (try simp only [decide_eq_true_eq, decide_eq_false_iff_not, Bool.not_eq_true', Bool.not_eq_false', Bool.and_eq_true, Bool.or_eq_true] at c9p)
    refine T.skip ?_
    refine T.seq ?_
    refine T.block ?_
    refine T.seq ?_
    refine T.region ?_
    refine RunT.op0 rfl rfl rfl rfl .move ?_
    refine RunT.op0 rfl rfl rfl rfl .assign ?_
    refine RunT.nil ?_
    refine T.seq ?_
    obtain ⟨p, hp, hx⟩ := gm (l := l) (f := pS) h0 (by omega)
    refine T.region ?_
    refine RunT.op0 rfl rfl rfl rfl .move ?_
    refine RunT.op0 rfl rfl rfl rfl .move ?_
    refine RunT.op0 rfl rfl rfl rfl .move ?_
    refine RunT.op0 rfl rfl rfl rfl (by first | exact .idxL sl24 rfl rfl (by omega) (by assumption) rfl | exact .idxO sl24 rfl rfl rfl (by omega) (by omega)) ?_
    refine RunT.op0 rfl rfl rfl rfl (by first | exact .loadP ty23 rfl rfl rfl | exact .loadR ty23 rfl rfl | exact .loadE ty23 rfl rfl (by assumption) rfl) ?_
    refine RunT.call0 rfl rfl rfl rfl rfl rfl (hf p) (by repeat (first | exact trivial | refine ⟨?_, ?_⟩ | exact .one .v | exact .one .lst | exact .one .rptr | exact .one (.all rfl rfl) | exact .one .nil | exact .agg' (by repeat (first | exact trivial | refine ⟨?_, ?_⟩ | exact .v | exact .lst | exact .rptr | exact .all rfl rfl | exact .nil | exact .clo' trivial)) | exact .one (.clo' (by repeat (first | exact trivial | refine ⟨?_, ?_⟩ | exact .v | exact .lst | exact .rptr | exact .all rfl rfl | exact .nil | exact .clo' trivial))) | exact .one (.ptr' rfl (by repeat (first | exact trivial | refine ⟨?_, ?_⟩ | exact .v | exact .lst | exact .rptr | exact .all rfl rfl | exact .nil | exact .clo' trivial))))) (Nat.le_of_ble_eq_true rfl) ?_
    refine RunT.nil ?_
    refine T.cond2 rfl (fun c16 => ?_) (fun c16 => ?_)
    · have c16p := c16; (try simp only [decide_eq_true_eq, decide_eq_false_iff_not, Bool.not_eq_true', Bool.not_eq_false', Bool.and_eq_true, Bool.or_eq_true] at c16p)
      refine T.seq ?_
      refine T.region ?_
      refine RunT.op0 rfl rfl rfl rfl .move ?_
      refine RunT.op0 rfl rfl rfl rfl .assign ?_
      refine RunT.nil ?_
      refine T.ret ?_
      exact RetOk.v rfl rfl (by rw [firstI_some h0 hp c16 h2])
    · have c16p := c16; (try simp only [decide_eq_true_eq, decide_eq_false_iff_not, Bool.not_eq_true', Bool.not_eq_false', Bool.and_eq_true, Bool.or_eq_true] at c16p)
      refine T.skip ?_
      refine T.region ?_
      refine RunT.op0 rfl rfl rfl rfl (.bin rfl rfl (fun w => b_add' w (w64 (by omega) (by omega))) rfl) ?_
      refine RunT.op0 rfl rfl rfl rfl .move ?_
      refine RunT.nil ?_
      refine ⟨((l.length : Int) - (i + 1)).toNat, by omega, _, ⟨i + 1, rfl, by omega, by omega, fun j q hj hq => ?_, rfl⟩, (sub_of (fun b => b) rfl (by repeat (first | exact trivial | exact ⟨rfl, rfl⟩ | refine ⟨?_, ?_⟩)) (by repeat (first | exact trivial | exact ⟨rfl, rfl, trivial⟩ | exact ⟨rfl, rfl, rfl⟩ | refine ⟨?_, ?_⟩)) (fun _ _ _ _ _ _ h => h))⟩
      rcases Int.lt_or_le j i with hji | hji
      · exact h2 j q hji hq
      · have : j = i.toNat := by omega
        subst this
        rw [hp] at hq
        cases hq
        exact c16
  · have c9p := c9; (try simp only [decide_eq_true_eq, decide_eq_false_iff_not, Bool.not_eq_true', Bool.not_eq_false', Bool.and_eq_true, Bool.or_eq_true] at c9p)
    refine T.exit ?_
    refine T.seq ?_
    refine T.region ?_
    refine RunT.op0 rfl rfl rfl rfl .assign ?_
    refine RunT.nil ?_
    refine T.ret ?_
    exact RetOk.v rfl rfl (by rw [firstI_none fun j q hq => h2 j q (by have := lt_of_get hq; omega) hq])

theorem con_pc (f : FuncId) (F : Pty → Bool) (l : List Pty) (hb : l.length ≤ 4294967296) (hf : ∀ p, PC Try.prog false f [pS p] (.v (.bool (F p)))) : PC Try.prog false 40 [.lst (l.map pS), .clo f []] (.v (.bool (l.any F))) := by
  refine PC.of_T Try.func40 rfl rfl (n := 9) rfl rfl (.inr rfl) ?_
  intro base B w0
  refine T.seq ?_
  refine T.region ?_
  refine RunT.op0 rfl rfl rfl rfl .assign ?_
  refine RunT.nil ?_
  refine T.seq ?_
  refine T.region ?_
  refine RunT.op0 rfl rfl rfl rfl .move ?_
  refine RunT.op0 rfl rfl rfl rfl .move ?_
  refine RunT.call0 rfl rfl rfl rfl rfl rfl (idx_pc f F l hb hf) (by repeat (first | exact trivial | refine ⟨?_, ?_⟩ | exact .one .v | exact .one .lst | exact .one .rptr | exact .one (.all rfl rfl) | exact .one .nil | exact .agg' (by repeat (first | exact trivial | refine ⟨?_, ?_⟩ | exact .v | exact .lst | exact .rptr | exact .all rfl rfl | exact .nil | exact .clo' trivial)) | exact .one (.clo' (by repeat (first | exact trivial | refine ⟨?_, ?_⟩ | exact .v | exact .lst | exact .rptr | exact .all rfl rfl | exact .nil | exact .clo' trivial))) | exact .one (.ptr' rfl (by repeat (first | exact trivial | refine ⟨?_, ?_⟩ | exact .v | exact .lst | exact .rptr | exact .all rfl rfl | exact .nil | exact .clo' trivial))))) (Nat.le_of_ble_eq_true rfl) ?_
  refine RunT.op0 rfl rfl rfl rfl (.bin rfl rfl (fun w => b_geq w) rfl) ?_
  refine RunT.op0 rfl rfl rfl rfl .assign ?_
  refine RunT.nil ?_
  refine T.ret ?_
  exact RetOk.v rfl rfl (by rw [firstI_nonneg])

theorem all_pc (l : List Pty) : PC Try.prog false 17 [.lst (l.map pS)] (.v (.bool (allP l))) := by
  have hlen : (l.map pS).length = l.length := List.length_map ..
  refine PC.of_T Try.func17 rfl rfl (n := 11) rfl rfl (.inr rfl) ?_
  intro base B w0
  refine T.seq ?_
  refine T.region ?_
  refine RunT.op0 rfl rfl rfl rfl .assign ?_
  refine RunT.nil ?_
  refine T.seq ?_
  refine T.region ?_
  refine RunT.op0 rfl rfl rfl rfl .move ?_
  refine RunT.op0 rfl rfl rfl rfl (by first | exact .lenL Try.underlying24 rfl rfl | exact .lenO Try.underlying24 rfl rfl | exact .lenV rfl (fun _ w => len_nil rfl Try.underlying24 w) rfl) ?_
  refine RunT.op0 rfl rfl rfl rfl (.bin rfl rfl (fun w => b_leq w) rfl) ?_
  refine RunT.op0 rfl rfl rfl rfl .move ?_
  refine RunT.cases (t := 6) rfl (fun g6 => ?_) (fun g6 => ?_)
  · have g6p := g6; (try simp only [decide_eq_true_eq, decide_eq_false_iff_not, Bool.not_eq_true', Bool.not_eq_false', Bool.and_eq_true, Bool.or_eq_true] at g6p)
    refine RunT.opg rfl rfl rfl (bo g6) rfl rfl .move ?_
    refine RunT.callg rfl rfl rfl (bo g6) rfl rfl rfl rfl (con_pc 41 (fun p => !p.may) l (by omega) notmay_pc) (by repeat (first | exact trivial | refine ⟨?_, ?_⟩ | exact .one .v | exact .one .lst | exact .one .rptr | exact .one (.all rfl rfl) | exact .one .nil | exact .agg' (by repeat (first | exact trivial | refine ⟨?_, ?_⟩ | exact .v | exact .lst | exact .rptr | exact .all rfl rfl | exact .nil | exact .clo' trivial)) | exact .one (.clo' (by repeat (first | exact trivial | refine ⟨?_, ?_⟩ | exact .v | exact .lst | exact .rptr | exact .all rfl rfl | exact .nil | exact .clo' trivial))) | exact .one (.ptr' rfl (by repeat (first | exact trivial | refine ⟨?_, ?_⟩ | exact .v | exact .lst | exact .rptr | exact .all rfl rfl | exact .nil | exact .clo' trivial))))) (Nat.le_of_ble_eq_true rfl) ?_
    refine RunT.opg rfl rfl rfl (bo g6) rfl rfl (.un rfl (fun w => u_not w) rfl) ?_
    refine RunT.op0 rfl rfl rfl rfl (.pick (bo g6)) ?_
    refine RunT.op0 rfl rfl rfl rfl .assign ?_
    refine RunT.nil ?_
    refine T.ret ?_
    exact RetOk.v rfl rfl (by rw [not_any]; simp [allP]; omega)
  · have g6p := g6; (try simp only [decide_eq_true_eq, decide_eq_false_iff_not, Bool.not_eq_true', Bool.not_eq_false', Bool.and_eq_true, Bool.or_eq_true] at g6p)
    refine RunT.no rfl rfl rfl (bo g6) rfl ?_
    refine RunT.no rfl rfl rfl (bo g6) rfl ?_
    refine RunT.no rfl rfl rfl (bo g6) rfl ?_
    refine RunT.op0 rfl rfl rfl rfl (.pick (bo g6)) ?_
    refine RunT.op0 rfl rfl rfl rfl .assign ?_
    refine RunT.nil ?_
    refine T.ret ?_
    exact RetOk.v rfl rfl (by simp [allP]; omega)

theorem rall_pc (l : List Pty) (hb : l.length ≤ 4294967296) : PC Try.prog false 18 [.lst (l.map pS)] (.v (.bool (allP l))) := by
  have hlen : (l.map pS).length = l.length := List.length_map ..
  refine PC.of_T Try.func18 rfl rfl (n := 19) rfl rfl (.inr rfl) ?_
  intro base B w0
  refine T.seq ?_
  refine T.region ?_
  refine RunT.op0 rfl rfl rfl rfl .assign ?_
  refine RunT.nil ?_
  refine T.seq ?_
  refine T.seq ?_
  refine T.region ?_
  refine RunT.op0 rfl rfl rfl rfl .assign ?_
  refine RunT.nil ?_
  refine T.block ?_
  refine T.loopS (fun n s => ∃ i : Int, n = ((l.length : Int) - i).toNat ∧ 0 ≤ i ∧ i ≤ (l.length : Int) ∧ (∀ (j : Nat) q, (j : Int) < i → l[j]? = some q → q.may = true) ∧ s = ⟨[(0, .lst (l.map pS)), (3, .v (.int .i64 i))], [], 0, []⟩) (_) ⟨_, ⟨0, rfl, by omega, by omega, (by intro j q hj; omega), rfl⟩, (sub_of (fun b => b) rfl (by repeat (first | exact trivial | exact ⟨rfl, rfl⟩ | refine ⟨?_, ?_⟩)) (by repeat (first | exact trivial | exact ⟨rfl, rfl, trivial⟩ | exact ⟨rfl, rfl, rfl⟩ | refine ⟨?_, ?_⟩)) (fun _ _ _ _ _ _ h => h))⟩ ?_
  rintro n s ⟨i, rfl, h0, h1, h2, rfl⟩
  refine T.seq ?_
  refine T.seq ?_
  refine T.region ?_
  refine RunT.op0 rfl rfl rfl rfl .move ?_
  refine RunT.op0 rfl rfl rfl rfl .move ?_
  refine RunT.op0 rfl rfl rfl rfl (by first | exact .lenL Try.underlying24 rfl rfl | exact .lenO Try.underlying24 rfl rfl | exact .lenV rfl (fun _ w => len_nil rfl Try.underlying24 w) rfl) ?_
  refine RunT.op0 rfl rfl rfl rfl (.bin rfl rfl (fun w => b_lss w) rfl) ?_
  refine RunT.nil ?_
  refine T.cond2 rfl (fun c7 => ?_) (fun c7 => ?_)
  · have c7p := c7; (try simp only [decide_eq_true_eq, decide_eq_false_iff_not, Bool.not_eq_true', Bool.not_eq_false', Bool.and_eq_true, Bool.or_eq_true] at c7p)
    refine T.skip ?_
    refine T.seq ?_
    refine T.block ?_
    refine T.seq ?_
    obtain ⟨p, hp, hx⟩ := gm (l := l) (f := pS) h0 (by omega)
    refine T.region ?_
    refine RunT.op0 rfl rfl rfl rfl .move ?_
    refine RunT.op0 rfl rfl rfl rfl .move ?_
    refine RunT.op0 rfl rfl rfl rfl (by first | exact .idxL sl24 rfl rfl (by omega) (by assumption) rfl | exact .idxO sl24 rfl rfl rfl (by omega) (by omega)) ?_
    refine RunT.op0 rfl rfl rfl rfl (by first | exact .loadP ty23 rfl rfl rfl | exact .loadR ty23 rfl rfl | exact .loadE ty23 rfl rfl (by assumption) rfl) ?_
    refine RunT.call0 rfl rfl rfl rfl rfl rfl (rmay_pc p) (by repeat (first | exact trivial | refine ⟨?_, ?_⟩ | exact .one .v | exact .one .lst | exact .one .rptr | exact .one (.all rfl rfl) | exact .one .nil | exact .agg' (by repeat (first | exact trivial | refine ⟨?_, ?_⟩ | exact .v | exact .lst | exact .rptr | exact .all rfl rfl | exact .nil | exact .clo' trivial)) | exact .one (.clo' (by repeat (first | exact trivial | refine ⟨?_, ?_⟩ | exact .v | exact .lst | exact .rptr | exact .all rfl rfl | exact .nil | exact .clo' trivial))) | exact .one (.ptr' rfl (by repeat (first | exact trivial | refine ⟨?_, ?_⟩ | exact .v | exact .lst | exact .rptr | exact .all rfl rfl | exact .nil | exact .clo' trivial))))) (Nat.le_of_ble_eq_true rfl) ?_
    refine RunT.op0 rfl rfl rfl rfl (.un rfl (fun w => u_not w) rfl) ?_
    refine RunT.nil ?_
    refine T.cond2 rfl (fun c15 => ?_) (fun c15 => ?_)
    · have c15p := c15; (try simp only [decide_eq_true_eq, decide_eq_false_iff_not, Bool.not_eq_true', Bool.not_eq_false', Bool.and_eq_true, Bool.or_eq_true] at c15p)
      refine T.seq ?_
      refine T.region ?_
      refine RunT.op0 rfl rfl rfl rfl .assign ?_
      refine RunT.nil ?_
      refine T.ret ?_
      exact RetOk.v rfl rfl (by have : l.all Pty.may = false := by { rw [List.all_eq_false]; exact ⟨p, List.mem_of_getElem? hp, by simpa using c15⟩ }
                                simp [allP, this]; try omega)
    · have c15p := c15; (try simp only [decide_eq_true_eq, decide_eq_false_iff_not, Bool.not_eq_true', Bool.not_eq_false', Bool.and_eq_true, Bool.or_eq_true] at c15p)
      refine T.skip ?_
      refine T.region ?_
      refine RunT.op0 rfl rfl rfl rfl .move ?_
      refine RunT.op0 rfl rfl rfl rfl (.bin rfl rfl (fun w => b_add' w (w64 (by omega) (by omega))) rfl) ?_
      refine RunT.op0 rfl rfl rfl rfl .assign ?_
      refine RunT.nil ?_
      refine ⟨((l.length : Int) - (i + 1)).toNat, by omega, _, ⟨i + 1, rfl, by omega, by omega, fun j q hj hq => ?_, rfl⟩, (sub_of (fun b => b) rfl (by repeat (first | exact trivial | exact ⟨rfl, rfl⟩ | refine ⟨?_, ?_⟩)) (by repeat (first | exact trivial | exact ⟨rfl, rfl, trivial⟩ | exact ⟨rfl, rfl, rfl⟩ | refine ⟨?_, ?_⟩)) (fun _ _ _ _ _ _ h => h))⟩
      rcases Int.lt_or_le j i with hji | hji
      · exact h2 j q hji hq
      · have : j = i.toNat := by omega
        subst this
        rw [hp] at hq
        cases hq
        simpa using c15
  · have c7p := c7; (try simp only [decide_eq_true_eq, decide_eq_false_iff_not, Bool.not_eq_true', Bool.not_eq_false', Bool.and_eq_true, Bool.or_eq_true] at c7p)
    refine T.exit ?_
    refine T.seq ?_
    refine T.region ?_
    refine RunT.op0 rfl rfl rfl rfl .move ?_
    refine RunT.op0 rfl rfl rfl rfl (by first | exact .lenL Try.underlying24 rfl rfl | exact .lenO Try.underlying24 rfl rfl | exact .lenV rfl (fun _ w => len_nil rfl Try.underlying24 w) rfl) ?_
    refine RunT.op0 rfl rfl rfl rfl (.bin rfl rfl (fun w => b_leq w) rfl) ?_
    refine RunT.op0 rfl rfl rfl rfl .assign ?_
    refine RunT.nil ?_
    refine T.ret ?_
    exact RetOk.v rfl rfl (by have : l.all Pty.may = true := by { rw [List.all_eq_true]; intro q hq; obtain ⟨j, hj⟩ := List.getElem?_of_mem hq; exact h2 j q (by have := lt_of_get hj; omega) hj }
                              simp [allP, this]; try omega)

theorem sum_pc (l : List Pty) : PC Try.prog false 19 [.lst (l.map pS)] (.v (.int .i64 (sumP l))) := by
  have hlen : (l.map pS).length = l.length := List.length_map ..
  refine PC.of_T Try.func19 rfl rfl (n := 21) rfl rfl (.inr rfl) ?_
  intro base B w0
  refine T.seq ?_
  refine T.region ?_
  refine RunT.op0 rfl rfl rfl rfl .assign ?_
  refine RunT.nil ?_
  refine T.seq ?_
  refine T.seq ?_
  refine T.region ?_
  refine RunT.op0 rfl rfl rfl rfl .move ?_
  refine RunT.call0 rfl rfl rfl rfl rfl rfl (all_pc l) (by repeat (first | exact trivial | refine ⟨?_, ?_⟩ | exact .one .v | exact .one .lst | exact .one .rptr | exact .one (.all rfl rfl) | exact .one .nil | exact .agg' (by repeat (first | exact trivial | refine ⟨?_, ?_⟩ | exact .v | exact .lst | exact .rptr | exact .all rfl rfl | exact .nil | exact .clo' trivial)) | exact .one (.clo' (by repeat (first | exact trivial | refine ⟨?_, ?_⟩ | exact .v | exact .lst | exact .rptr | exact .all rfl rfl | exact .nil | exact .clo' trivial))) | exact .one (.ptr' rfl (by repeat (first | exact trivial | refine ⟨?_, ?_⟩ | exact .v | exact .lst | exact .rptr | exact .all rfl rfl | exact .nil | exact .clo' trivial))))) (Nat.le_of_ble_eq_true rfl) ?_
  refine RunT.op0 rfl rfl rfl rfl (.un rfl (fun w => u_not w) rfl) ?_
  refine RunT.nil ?_
  refine T.cond2 rfl (fun c8 => ?_) (fun c8 => ?_)
  · have c8p := c8; (try simp only [decide_eq_true_eq, decide_eq_false_iff_not, Bool.not_eq_true', Bool.not_eq_false', Bool.and_eq_true, Bool.or_eq_true] at c8p)
    refine T.seq ?_
    refine T.region ?_
    refine RunT.op0 rfl rfl rfl rfl .assign ?_
    refine RunT.nil ?_
    refine T.ret ?_
    exact RetOk.v rfl rfl (by have : allP l = false := by simpa using c8
                              simp [sumP, this])
  · have c8p := c8; (try simp only [decide_eq_true_eq, decide_eq_false_iff_not, Bool.not_eq_true', Bool.not_eq_false', Bool.and_eq_true, Bool.or_eq_true] at c8p)
    refine T.skip ?_
    refine T.seq ?_
    refine T.region ?_
    refine RunT.op0 rfl rfl rfl rfl .assign ?_
    refine RunT.nil ?_
    refine T.seq ?_
    refine T.seq ?_
    refine T.region ?_
    refine RunT.op0 rfl rfl rfl rfl .move ?_
    refine RunT.op0 rfl rfl rfl rfl (by first | exact .lenL Try.underlying24 rfl rfl | exact .lenO Try.underlying24 rfl rfl | exact .lenV rfl (fun _ w => len_nil rfl Try.underlying24 w) rfl) ?_
    refine RunT.op0 rfl rfl rfl rfl .move ?_
    refine RunT.nil ?_
    refine T.block ?_
    refine T.loopS (fun n s => ∃ i : Int, ∃ a : Int, n = ((l.length : Int) - i).toNat ∧ 0 ≤ i ∧ i ≤ (l.length : Int) ∧ a = sumS (l.take i.toNat) ∧ 0 ≤ a ∧ a ≤ 8 * i ∧ s = ⟨[(0, .lst (l.map pS)), (3, .v (.int .i64 a)), (9, .lst (l.map pS)), (10, .v (.int .i64 ((l.map pS).length))), (11, .v (.int .i64 i))], [], 0, []⟩) (_) ⟨_, ⟨0, 0, rfl, by omega, by omega, rfl, by omega, by omega, rfl⟩, (sub_of (fun b => b) rfl (by repeat (first | exact trivial | exact ⟨rfl, rfl⟩ | refine ⟨?_, ?_⟩)) (by repeat (first | exact trivial | exact ⟨rfl, rfl, trivial⟩ | exact ⟨rfl, rfl, rfl⟩ | refine ⟨?_, ?_⟩)) (fun _ _ _ _ _ _ h => h))⟩ ?_
    all_goals (try (have hall : allP l = true := by simpa using c8))
    all_goals (try obtain ⟨hm1, hm2⟩ := allP_get hall)
    rintro n s ⟨i, a, rfl, h0, h1, ha, h3, h4, rfl⟩
    refine T.seq ?_
    refine T.region ?_
    refine RunT.op0 rfl rfl rfl rfl (.bin rfl rfl (fun w => b_lss w) rfl) ?_
    refine RunT.nil ?_
    refine T.seq ?_
    refine T.cond2 rfl (fun c12 => ?_) (fun c12 => ?_)
    · have c12p := c12; (try simp only [decide_eq_true_eq, decide_eq_false_iff_not, Bool.not_eq_true', Bool.not_eq_false', Bool.and_eq_true, Bool.or_eq_true] at c12p)
      refine T.skip ?_
      refine T.seq ?_
      refine T.block ?_
      refine T.seq ?_
      obtain ⟨p, hp, hx⟩ := gm (l := l) (f := pS) h0 (by omega)
      have hq := may_get (hm2 _ p hp)
      refine T.region ?_
      refine RunT.op0 rfl rfl rfl rfl (by first | exact .idxL sl24 rfl rfl (by omega) (by assumption) rfl | exact .idxO sl24 rfl rfl rfl (by omega) (by omega)) ?_
      refine RunT.op0 rfl rfl rfl rfl (by first | exact .loadP ty23 rfl rfl rfl | exact .loadR ty23 rfl rfl | exact .loadE ty23 rfl rfl (by assumption) rfl) ?_
      refine RunT.op0 rfl rfl rfl rfl (.alloc in23.zero rfl rfl) ?_
      refine RunT.op0 rfl rfl rfl rfl (by first | exact .storeP ty23 rfl rfl rfl rfl rfl (by decide) | exact .storeE ty23 rfl rfl rfl rfl rfl (by assumption) (by decide) (fun _ => rfl)) ?_
      refine RunT.nil ?_
      refine T.region ?_
      refine RunT.op0 rfl rfl rfl rfl .move ?_
      refine RunT.op0 rfl rfl rfl rfl (by first | exact .fieldP fl23_0 rfl | exact .fieldR fl23_0 rfl | exact .fieldE fl23_0 rfl) ?_
      refine RunT.op0 rfl rfl rfl rfl (by first | exact .loadP ty3 rfl rfl rfl | exact .loadR ty3 rfl rfl | exact .loadE ty3 rfl rfl (by assumption) rfl) ?_
      refine RunT.op0 rfl rfl rfl rfl (.bin rfl rfl (fun w => b_add' w (w64 (by omega) (by omega))) rfl) ?_
      refine RunT.op0 rfl rfl rfl rfl .assign ?_
      refine RunT.nil ?_
      refine T.region ?_
      refine RunT.op0 rfl rfl rfl rfl (.bin rfl rfl (fun w => b_add' w (w64 (by omega) (by omega))) rfl) ?_
      refine RunT.op0 rfl rfl rfl rfl .move ?_
      refine RunT.nil ?_
      refine ⟨((l.length : Int) - (i + 1)).toNat, by omega, _, ⟨i + 1, a + p.s, rfl, by omega, by omega, by rw [sumS_take h0 hp, ha], by omega, by omega, rfl⟩, (sub_of (fun b => b) rfl (by repeat (first | exact trivial | exact ⟨rfl, rfl⟩ | refine ⟨?_, ?_⟩)) (by repeat (first | exact trivial | exact ⟨rfl, rfl, trivial⟩ | exact ⟨rfl, rfl, rfl⟩ | refine ⟨?_, ?_⟩)) (fun _ _ _ _ _ _ h => h))⟩
    · have c12p := c12; (try simp only [decide_eq_true_eq, decide_eq_false_iff_not, Bool.not_eq_true', Bool.not_eq_false', Bool.and_eq_true, Bool.or_eq_true] at c12p)
      refine T.exit ?_
      refine T.seq ?_
      refine T.region ?_
      refine RunT.op0 rfl rfl rfl rfl .move ?_
      refine RunT.op0 rfl rfl rfl rfl .assign ?_
      refine RunT.nil ?_
      refine T.ret ?_
      exact RetOk.v rfl rfl (by rw [ha, List.take_of_length_le (by omega)]; simp [sumP, hall])

theorem rsum_pc (l : List Pty) (hb : l.length ≤ 4294967296) : PC Try.prog false 20 [.lst (l.map pS)] (.v (.int .i64 (sumP l))) := by
  have hlen : (l.map pS).length = l.length := List.length_map ..
  refine PC.of_T Try.func20 rfl rfl (n := 22) rfl rfl (.inr rfl) ?_
  intro base B w0
  refine T.seq ?_
  refine T.region ?_
  refine RunT.op0 rfl rfl rfl rfl .assign ?_
  refine RunT.nil ?_
  refine T.seq ?_
  refine T.seq ?_
  refine T.region ?_
  refine RunT.op0 rfl rfl rfl rfl .move ?_
  refine RunT.call0 rfl rfl rfl rfl rfl rfl (rall_pc l hb) (by repeat (first | exact trivial | refine ⟨?_, ?_⟩ | exact .one .v | exact .one .lst | exact .one .rptr | exact .one (.all rfl rfl) | exact .one .nil | exact .agg' (by repeat (first | exact trivial | refine ⟨?_, ?_⟩ | exact .v | exact .lst | exact .rptr | exact .all rfl rfl | exact .nil | exact .clo' trivial)) | exact .one (.clo' (by repeat (first | exact trivial | refine ⟨?_, ?_⟩ | exact .v | exact .lst | exact .rptr | exact .all rfl rfl | exact .nil | exact .clo' trivial))) | exact .one (.ptr' rfl (by repeat (first | exact trivial | refine ⟨?_, ?_⟩ | exact .v | exact .lst | exact .rptr | exact .all rfl rfl | exact .nil | exact .clo' trivial))))) (Nat.le_of_ble_eq_true rfl) ?_
  refine RunT.op0 rfl rfl rfl rfl (.un rfl (fun w => u_not w) rfl) ?_
  refine RunT.nil ?_
  refine T.cond2 rfl (fun c7 => ?_) (fun c7 => ?_)
  · have c7p := c7; (try simp only [decide_eq_true_eq, decide_eq_false_iff_not, Bool.not_eq_true', Bool.not_eq_false', Bool.and_eq_true, Bool.or_eq_true] at c7p)
    refine T.seq ?_
    refine T.region ?_
    refine RunT.op0 rfl rfl rfl rfl .assign ?_
    refine RunT.nil ?_
    refine T.ret ?_
    exact RetOk.v rfl rfl (by have : allP l = false := by simpa using c7
                              simp [sumP, this])
  · have c7p := c7; (try simp only [decide_eq_true_eq, decide_eq_false_iff_not, Bool.not_eq_true', Bool.not_eq_false', Bool.and_eq_true, Bool.or_eq_true] at c7p)
    refine T.skip ?_
    refine T.seq ?_
    refine T.region ?_
    refine RunT.op0 rfl rfl rfl rfl .assign ?_
    refine RunT.nil ?_
    refine T.seq ?_
    refine T.seq ?_
    refine T.region ?_
    refine RunT.op0 rfl rfl rfl rfl .assign ?_
    refine RunT.nil ?_
    refine T.block ?_
    refine T.loopS (fun n s => ∃ i : Int, ∃ a : Int, n = ((l.length : Int) - i).toNat ∧ 0 ≤ i ∧ i ≤ (l.length : Int) ∧ a = sumS (l.take i.toNat) ∧ 0 ≤ a ∧ a ≤ 8 * i ∧ s = ⟨[(0, .lst (l.map pS)), (3, .v (.int .i64 a)), (4, .v (.int .i64 i))], [], 0, []⟩) (_) ⟨_, ⟨0, 0, rfl, by omega, by omega, rfl, by omega, by omega, rfl⟩, (sub_of (fun b => b) rfl (by repeat (first | exact trivial | exact ⟨rfl, rfl⟩ | refine ⟨?_, ?_⟩)) (by repeat (first | exact trivial | exact ⟨rfl, rfl, trivial⟩ | exact ⟨rfl, rfl, rfl⟩ | refine ⟨?_, ?_⟩)) (fun _ _ _ _ _ _ h => h))⟩ ?_
    all_goals (try (have hall : allP l = true := by simpa using c7))
    all_goals (try obtain ⟨hm1, hm2⟩ := allP_get hall)
    rintro n s ⟨i, a, rfl, h0, h1, ha, h3, h4, rfl⟩
    refine T.seq ?_
    refine T.seq ?_
    refine T.region ?_
    refine RunT.op0 rfl rfl rfl rfl .move ?_
    refine RunT.op0 rfl rfl rfl rfl .move ?_
    refine RunT.op0 rfl rfl rfl rfl (by first | exact .lenL Try.underlying24 rfl rfl | exact .lenO Try.underlying24 rfl rfl | exact .lenV rfl (fun _ w => len_nil rfl Try.underlying24 w) rfl) ?_
    refine RunT.op0 rfl rfl rfl rfl (.bin rfl rfl (fun w => b_lss w) rfl) ?_
    refine RunT.nil ?_
    refine T.cond2 rfl (fun c11 => ?_) (fun c11 => ?_)
    · have c11p := c11; (try simp only [decide_eq_true_eq, decide_eq_false_iff_not, Bool.not_eq_true', Bool.not_eq_false', Bool.and_eq_true, Bool.or_eq_true] at c11p)
      refine T.skip ?_
      refine T.seq ?_
      refine T.block ?_
      obtain ⟨p, hp, hx⟩ := gm (l := l) (f := pS) h0 (by omega)
      have hq := may_get (hm2 _ p hp)
      refine T.region ?_
      refine RunT.op0 rfl rfl rfl rfl .move ?_
      refine RunT.op0 rfl rfl rfl rfl .move ?_
      refine RunT.op0 rfl rfl rfl rfl .move ?_
      refine RunT.op0 rfl rfl rfl rfl (by first | exact .idxL sl24 rfl rfl (by omega) (by assumption) rfl | exact .idxO sl24 rfl rfl rfl (by omega) (by omega)) ?_
      refine RunT.op0 rfl rfl rfl rfl (by first | exact .fieldP fl23_0 rfl | exact .fieldR fl23_0 rfl | exact .fieldE fl23_0 rfl) ?_
      refine RunT.op0 rfl rfl rfl rfl (by first | exact .loadP ty3 rfl rfl rfl | exact .loadR ty3 rfl rfl | exact .loadE ty3 rfl rfl (by assumption) rfl) ?_
      refine RunT.op0 rfl rfl rfl rfl (.bin rfl rfl (fun w => b_add' w (w64 (by omega) (by omega))) rfl) ?_
      refine RunT.op0 rfl rfl rfl rfl .assign ?_
      refine RunT.nil ?_
      refine T.region ?_
      refine RunT.op0 rfl rfl rfl rfl .move ?_
      refine RunT.op0 rfl rfl rfl rfl (.bin rfl rfl (fun w => b_add' w (w64 (by omega) (by omega))) rfl) ?_
      refine RunT.op0 rfl rfl rfl rfl .assign ?_
      refine RunT.nil ?_
      refine ⟨((l.length : Int) - (i + 1)).toNat, by omega, _, ⟨i + 1, a + p.s, rfl, by omega, by omega, by rw [sumS_take h0 hp, ha], by omega, by omega, rfl⟩, (sub_of (fun b => b) rfl (by repeat (first | exact trivial | exact ⟨rfl, rfl⟩ | refine ⟨?_, ?_⟩)) (by repeat (first | exact trivial | exact ⟨rfl, rfl, trivial⟩ | exact ⟨rfl, rfl, rfl⟩ | refine ⟨?_, ?_⟩)) (fun _ _ _ _ _ _ h => h))⟩
    · have c11p := c11; (try simp only [decide_eq_true_eq, decide_eq_false_iff_not, Bool.not_eq_true', Bool.not_eq_false', Bool.and_eq_true, Bool.or_eq_true] at c11p)
      refine T.exit ?_
      refine T.seq ?_
      refine T.region ?_
      refine RunT.op0 rfl rfl rfl rfl .move ?_
      refine RunT.op0 rfl rfl rfl rfl .assign ?_
      refine RunT.nil ?_
      refine T.ret ?_
      exact RetOk.v rfl rfl (by rw [ha, List.take_of_length_le (by omega)]; simp [sumP, hall])

theorem equal_pc (a b : List Pty) (hb : a.length ≤ 4294967296) : PC Try.prog false 42 [.lst (a.map pS), .lst (b.map pS)] (.v (.bool (decide (a = b)))) := by
  have hla : (a.map pS).length = a.length := List.length_map ..
  have hlb : (b.map pS).length = b.length := List.length_map ..
  refine PC.of_T Try.func42 rfl rfl (n := 26) rfl rfl (.inr rfl) ?_
  intro base B w0
  refine T.seq ?_
  refine T.region ?_
  refine RunT.op0 rfl rfl rfl rfl .assign ?_
  refine RunT.nil ?_
  refine T.seq ?_
  refine T.seq ?_
  refine T.region ?_
  refine RunT.op0 rfl rfl rfl rfl .move ?_
  refine RunT.op0 rfl rfl rfl rfl (by first | exact .lenL Try.underlying24 rfl rfl | exact .lenO Try.underlying24 rfl rfl | exact .lenV rfl (fun _ w => len_nil rfl Try.underlying24 w) rfl) ?_
  refine RunT.op0 rfl rfl rfl rfl .move ?_
  refine RunT.op0 rfl rfl rfl rfl (by first | exact .lenL Try.underlying24 rfl rfl | exact .lenO Try.underlying24 rfl rfl | exact .lenV rfl (fun _ w => len_nil rfl Try.underlying24 w) rfl) ?_
  refine RunT.op0 rfl rfl rfl rfl (.bin rfl rfl (fun w => b_neq w) rfl) ?_
  refine RunT.nil ?_
  refine T.cond2 rfl (fun c10 => ?_) (fun c10 => ?_)
  · have c10p := c10; (try simp only [decide_eq_true_eq, decide_eq_false_iff_not, Bool.not_eq_true', Bool.not_eq_false', Bool.and_eq_true, Bool.or_eq_true] at c10p)
    refine T.seq ?_
    refine T.region ?_
    refine RunT.op0 rfl rfl rfl rfl .assign ?_
    refine RunT.nil ?_
    refine T.ret ?_
    exact RetOk.v rfl rfl (by have : a ≠ b := by { rintro rfl; simp at c10 }
                              simp [this])
  · have c10p := c10; (try simp only [decide_eq_true_eq, decide_eq_false_iff_not, Bool.not_eq_true', Bool.not_eq_false', Bool.and_eq_true, Bool.or_eq_true] at c10p)
    refine T.skip ?_
    refine T.seq ?_
    refine T.seq ?_
    refine T.region ?_
    refine RunT.op0 rfl rfl rfl rfl .move ?_
    refine RunT.op0 rfl rfl rfl rfl (by first | exact .lenL Try.underlying24 rfl rfl | exact .lenO Try.underlying24 rfl rfl | exact .lenV rfl (fun _ w => len_nil rfl Try.underlying24 w) rfl) ?_
    refine RunT.op0 rfl rfl rfl rfl .move ?_
    refine RunT.nil ?_
    refine T.block ?_
    refine T.loopS (fun n s => ∃ i : Int, n = ((a.length : Int) - i).toNat ∧ 0 ≤ i ∧ i ≤ (a.length : Int) ∧ (∀ (j : Nat) x y, (j : Int) < i → a[j]? = some x → b[j]? = some y → x = y) ∧ s = ⟨[(0, .lst (a.map pS)), (1, .lst (b.map pS)), (12, .v (.int .i64 ((a.map pS).length))), (13, .v (.int .i64 i))], [], 0, []⟩) (_) ⟨_, ⟨0, rfl, by omega, by omega, (by intro j q r hj; omega), rfl⟩, (sub_of (fun b => b) rfl (by repeat (first | exact trivial | exact ⟨rfl, rfl⟩ | refine ⟨?_, ?_⟩)) (by repeat (first | exact trivial | exact ⟨rfl, rfl, trivial⟩ | exact ⟨rfl, rfl, rfl⟩ | refine ⟨?_, ?_⟩)) (fun _ _ _ _ _ _ h => h))⟩ ?_
    rintro n s ⟨i, rfl, h0, h1, h2, rfl⟩
    refine T.seq ?_
    refine T.region ?_
    refine RunT.op0 rfl rfl rfl rfl (.bin rfl rfl (fun w => b_lss w) rfl) ?_
    refine RunT.nil ?_
    refine T.seq ?_
    refine T.cond2 rfl (fun c14 => ?_) (fun c14 => ?_)
    · have c14p := c14; (try simp only [decide_eq_true_eq, decide_eq_false_iff_not, Bool.not_eq_true', Bool.not_eq_false', Bool.and_eq_true, Bool.or_eq_true] at c14p)
      refine T.skip ?_
      refine T.seq ?_
      refine T.block ?_
      refine T.seq ?_
      refine T.region ?_
      refine RunT.op0 rfl rfl rfl rfl .move ?_
      refine RunT.op0 rfl rfl rfl rfl .assign ?_
      refine RunT.nil ?_
      refine T.seq ?_
      obtain ⟨p, hp, hpx⟩ := gm (l := a) (f := pS) h0 (by omega)
      obtain ⟨q, hq, hqx⟩ := gm (l := b) (f := pS) h0 (by omega)
      refine T.draw (wr := []) mixed rfl rfl ?_ rfl
      refine RunD.op0 rfl rfl rfl .move rfl ?_
      refine RunD.op0 rfl rfl rfl .move rfl ?_
      refine RunD.op0 rfl rfl rfl (by first | exact .idxL sl24 rfl rfl (by omega) (by assumption) rfl | exact .idxO sl24 rfl rfl rfl (by omega) (by omega)) rfl ?_
      refine RunD.op0 rfl rfl rfl (by first | exact .loadP ty23 rfl rfl rfl | exact .loadR ty23 rfl rfl | exact .loadE ty23 rfl rfl (by assumption) rfl) rfl ?_
      refine RunD.op0 rfl rfl rfl .move rfl ?_
      refine RunD.op0 rfl rfl rfl .move rfl ?_
      refine RunD.op0 rfl rfl rfl (by first | exact .idxL sl24 rfl rfl (by omega) (by assumption) rfl | exact .idxO sl24 rfl rfl rfl (by omega) (by omega)) rfl ?_
      refine RunD.op0 rfl rfl rfl (by first | exact .loadP ty23 rfl rfl rfl | exact .loadR ty23 rfl rfl | exact .loadE ty23 rfl rfl (by assumption) rfl) rfl ?_
      refine RunD.op0 rfl rfl rfl (.binA (us := [.int .i64 p.s, .int .i64 p.w]) (vs := [.int .i64 q.s, .int .i64 q.w]) rfl rfl (fun w => ne23 p q w) rfl) rfl ?_
      refine RunD.nil (by kernel_rfl) ⟨rfl, rfl, ?_⟩
      refine T.cond2 rfl (fun c24 => ?_) (fun c24 => ?_)
      · have c24p := c24; (try simp only [decide_eq_true_eq, decide_eq_false_iff_not, Bool.not_eq_true', Bool.not_eq_false', Bool.and_eq_true, Bool.or_eq_true] at c24p)
        refine T.seq ?_
        refine T.region ?_
        refine RunT.op0 rfl rfl rfl rfl .assign ?_
        refine RunT.nil ?_
        refine T.ret ?_
        exact RetOk.v rfl rfl (by have : a ≠ b := by { rintro rfl; rw [hp] at hq; cases hq; simp at c24 }
                                  simp [this])
      · have c24p := c24; (try simp only [decide_eq_true_eq, decide_eq_false_iff_not, Bool.not_eq_true', Bool.not_eq_false', Bool.and_eq_true, Bool.or_eq_true] at c24p)
        refine T.skip ?_
        refine T.region ?_
        refine RunT.op0 rfl rfl rfl rfl (.bin rfl rfl (fun w => b_add' w (w64 (by omega) (by omega))) rfl) ?_
        refine RunT.op0 rfl rfl rfl rfl .move ?_
        refine RunT.nil ?_
        refine ⟨((a.length : Int) - (i + 1)).toNat, by omega, _, ⟨i + 1, rfl, by omega, by omega, fun j x y hj hx hy => ?_, rfl⟩, (sub_of (fun b => b) rfl (by repeat (first | exact trivial | exact ⟨rfl, rfl⟩ | refine ⟨?_, ?_⟩)) (by repeat (first | exact trivial | exact ⟨rfl, rfl, trivial⟩ | exact ⟨rfl, rfl, rfl⟩ | refine ⟨?_, ?_⟩)) (fun _ _ _ _ _ _ h => h))⟩
        rcases Int.lt_or_le j i with hji | hji
        · exact h2 j x y hji hx hy
        · have : j = i.toNat := by omega
          subst this
          rw [hp] at hx
          rw [hq] at hy
          cases hx
          cases hy
          simpa using c24
    · have c14p := c14; (try simp only [decide_eq_true_eq, decide_eq_false_iff_not, Bool.not_eq_true', Bool.not_eq_false', Bool.and_eq_true, Bool.or_eq_true] at c14p)
      refine T.exit ?_
      refine T.seq ?_
      refine T.region ?_
      refine RunT.op0 rfl rfl rfl rfl .assign ?_
      refine RunT.nil ?_
      refine T.ret ?_
      exact RetOk.v rfl rfl (by have : a = b := eq_of_get (by omega) (fun j x y hx hy => h2 j x y (by have := lt_of_get hx; omega) hx hy)
                                simp [this])

theorem rsame_pc (a b : List Pty) (hb : a.length ≤ 4294967296) : PC Try.prog false 22 [.lst (a.map pS), .lst (b.map pS)] (.v (.bool (decide (a = b)))) := by
  have hla : (a.map pS).length = a.length := List.length_map ..
  have hlb : (b.map pS).length = b.length := List.length_map ..
  refine PC.of_T Try.func22 rfl rfl (n := 26) rfl rfl (.inr rfl) ?_
  intro base B w0
  refine T.seq ?_
  refine T.region ?_
  refine RunT.op0 rfl rfl rfl rfl .assign ?_
  refine RunT.nil ?_
  refine T.seq ?_
  refine T.seq ?_
  refine T.region ?_
  refine RunT.op0 rfl rfl rfl rfl .move ?_
  refine RunT.op0 rfl rfl rfl rfl (by first | exact .lenL Try.underlying24 rfl rfl | exact .lenO Try.underlying24 rfl rfl | exact .lenV rfl (fun _ w => len_nil rfl Try.underlying24 w) rfl) ?_
  refine RunT.op0 rfl rfl rfl rfl .move ?_
  refine RunT.op0 rfl rfl rfl rfl (by first | exact .lenL Try.underlying24 rfl rfl | exact .lenO Try.underlying24 rfl rfl | exact .lenV rfl (fun _ w => len_nil rfl Try.underlying24 w) rfl) ?_
  refine RunT.op0 rfl rfl rfl rfl (.bin rfl rfl (fun w => b_neq w) rfl) ?_
  refine RunT.nil ?_
  refine T.cond2 rfl (fun c10 => ?_) (fun c10 => ?_)
  · have c10p := c10; (try simp only [decide_eq_true_eq, decide_eq_false_iff_not, Bool.not_eq_true', Bool.not_eq_false', Bool.and_eq_true, Bool.or_eq_true] at c10p)
    refine T.seq ?_
    refine T.region ?_
    refine RunT.op0 rfl rfl rfl rfl .assign ?_
    refine RunT.nil ?_
    refine T.ret ?_
    exact RetOk.v rfl rfl (by have : a ≠ b := by { rintro rfl; simp at c10 }
                              simp [this])
  · have c10p := c10; (try simp only [decide_eq_true_eq, decide_eq_false_iff_not, Bool.not_eq_true', Bool.not_eq_false', Bool.and_eq_true, Bool.or_eq_true] at c10p)
    refine T.skip ?_
    refine T.seq ?_
    refine T.seq ?_
    refine T.region ?_
    refine RunT.op0 rfl rfl rfl rfl .assign ?_
    refine RunT.nil ?_
    refine T.block ?_
    refine T.loopS (fun n s => ∃ i : Int, n = ((a.length : Int) - i).toNat ∧ 0 ≤ i ∧ i ≤ (a.length : Int) ∧ (∀ (j : Nat) x y, (j : Int) < i → a[j]? = some x → b[j]? = some y → x = y) ∧ s = ⟨[(0, .lst (a.map pS)), (1, .lst (b.map pS)), (5, .v (.int .i64 i))], [], 0, []⟩) (_) ⟨_, ⟨0, rfl, by omega, by omega, (by intro j q r hj; omega), rfl⟩, (sub_of (fun b => b) rfl (by repeat (first | exact trivial | exact ⟨rfl, rfl⟩ | refine ⟨?_, ?_⟩)) (by repeat (first | exact trivial | exact ⟨rfl, rfl, trivial⟩ | exact ⟨rfl, rfl, rfl⟩ | refine ⟨?_, ?_⟩)) (fun _ _ _ _ _ _ h => h))⟩ ?_
    rintro n s ⟨i, rfl, h0, h1, h2, rfl⟩
    refine T.seq ?_
    refine T.seq ?_
    refine T.region ?_
    refine RunT.op0 rfl rfl rfl rfl .move ?_
    refine RunT.op0 rfl rfl rfl rfl .move ?_
    refine RunT.op0 rfl rfl rfl rfl (by first | exact .lenL Try.underlying24 rfl rfl | exact .lenO Try.underlying24 rfl rfl | exact .lenV rfl (fun _ w => len_nil rfl Try.underlying24 w) rfl) ?_
    refine RunT.op0 rfl rfl rfl rfl (.bin rfl rfl (fun w => b_lss w) rfl) ?_
    refine RunT.nil ?_
    refine T.cond2 rfl (fun c14 => ?_) (fun c14 => ?_)
    · have c14p := c14; (try simp only [decide_eq_true_eq, decide_eq_false_iff_not, Bool.not_eq_true', Bool.not_eq_false', Bool.and_eq_true, Bool.or_eq_true] at c14p)
      refine T.skip ?_
      refine T.seq ?_
      refine T.block ?_
      refine T.seq ?_
      obtain ⟨p, hp, hpx⟩ := gm (l := a) (f := pS) h0 (by omega)
      obtain ⟨q, hq, hqx⟩ := gm (l := b) (f := pS) h0 (by omega)
      refine T.draw (wr := []) mixed rfl rfl ?_ rfl
      refine RunD.op0 rfl rfl rfl .move rfl ?_
      refine RunD.op0 rfl rfl rfl .move rfl ?_
      refine RunD.op0 rfl rfl rfl (by first | exact .idxL sl24 rfl rfl (by omega) (by assumption) rfl | exact .idxO sl24 rfl rfl rfl (by omega) (by omega)) rfl ?_
      refine RunD.op0 rfl rfl rfl (by first | exact .loadP ty23 rfl rfl rfl | exact .loadR ty23 rfl rfl | exact .loadE ty23 rfl rfl (by assumption) rfl) rfl ?_
      refine RunD.op0 rfl rfl rfl .move rfl ?_
      refine RunD.op0 rfl rfl rfl .move rfl ?_
      refine RunD.op0 rfl rfl rfl (by first | exact .idxL sl24 rfl rfl (by omega) (by assumption) rfl | exact .idxO sl24 rfl rfl rfl (by omega) (by omega)) rfl ?_
      refine RunD.op0 rfl rfl rfl (by first | exact .loadP ty23 rfl rfl rfl | exact .loadR ty23 rfl rfl | exact .loadE ty23 rfl rfl (by assumption) rfl) rfl ?_
      refine RunD.op0 rfl rfl rfl (.binA (us := [.int .i64 p.s, .int .i64 p.w]) (vs := [.int .i64 q.s, .int .i64 q.w]) rfl rfl (fun w => ne23 p q w) rfl) rfl ?_
      refine RunD.nil (by kernel_rfl) ⟨rfl, rfl, ?_⟩
      refine T.cond2 rfl (fun c25 => ?_) (fun c25 => ?_)
      · have c25p := c25; (try simp only [decide_eq_true_eq, decide_eq_false_iff_not, Bool.not_eq_true', Bool.not_eq_false', Bool.and_eq_true, Bool.or_eq_true] at c25p)
        refine T.seq ?_
        refine T.region ?_
        refine RunT.op0 rfl rfl rfl rfl .assign ?_
        refine RunT.nil ?_
        refine T.ret ?_
        exact RetOk.v rfl rfl (by have : a ≠ b := by { rintro rfl; rw [hp] at hq; cases hq; simp at c25 }
                                  simp [this])
      · have c25p := c25; (try simp only [decide_eq_true_eq, decide_eq_false_iff_not, Bool.not_eq_true', Bool.not_eq_false', Bool.and_eq_true, Bool.or_eq_true] at c25p)
        refine T.skip ?_
        refine T.region ?_
        refine RunT.op0 rfl rfl rfl rfl .move ?_
        refine RunT.op0 rfl rfl rfl rfl (.bin rfl rfl (fun w => b_add' w (w64 (by omega) (by omega))) rfl) ?_
        refine RunT.op0 rfl rfl rfl rfl .assign ?_
        refine RunT.nil ?_
        refine ⟨((a.length : Int) - (i + 1)).toNat, by omega, _, ⟨i + 1, rfl, by omega, by omega, fun j x y hj hx hy => ?_, rfl⟩, (sub_of (fun b => b) rfl (by repeat (first | exact trivial | exact ⟨rfl, rfl⟩ | refine ⟨?_, ?_⟩)) (by repeat (first | exact trivial | exact ⟨rfl, rfl, trivial⟩ | exact ⟨rfl, rfl, rfl⟩ | refine ⟨?_, ?_⟩)) (fun _ _ _ _ _ _ h => h))⟩
        rcases Int.lt_or_le j i with hji | hji
        · exact h2 j x y hji hx hy
        · have : j = i.toNat := by omega
          subst this
          rw [hp] at hx
          rw [hq] at hy
          cases hx
          cases hy
          simpa using c25
    · have c14p := c14; (try simp only [decide_eq_true_eq, decide_eq_false_iff_not, Bool.not_eq_true', Bool.not_eq_false', Bool.and_eq_true, Bool.or_eq_true] at c14p)
      refine T.exit ?_
      refine T.seq ?_
      refine T.region ?_
      refine RunT.op0 rfl rfl rfl rfl .assign ?_
      refine RunT.nil ?_
      refine T.ret ?_
      exact RetOk.v rfl rfl (by have : a = b := eq_of_get (by omega) (fun j x y hx hy => h2 j x y (by have := lt_of_get hx; omega) hx hy)
                                simp [this])

theorem same_pc (a b : List Pty) (hb : a.length ≤ 4294967296) : PC Try.prog false 21 [.lst (a.map pS), .lst (b.map pS)] (.v (.bool (decide (a = b)))) := by
  refine PC.of_T Try.func21 rfl rfl (n := 8) rfl rfl (.inr rfl) ?_
  intro base B w0
  refine T.seq ?_
  refine T.region ?_
  refine RunT.op0 rfl rfl rfl rfl .assign ?_
  refine RunT.nil ?_
  refine T.seq ?_
  refine T.region ?_
  refine RunT.op0 rfl rfl rfl rfl .move ?_
  refine RunT.op0 rfl rfl rfl rfl .move ?_
  refine RunT.call0 rfl rfl rfl rfl rfl rfl (equal_pc a b hb) (by repeat (first | exact trivial | refine ⟨?_, ?_⟩ | exact .one .v | exact .one .lst | exact .one .rptr | exact .one (.all rfl rfl) | exact .one .nil | exact .agg' (by repeat (first | exact trivial | refine ⟨?_, ?_⟩ | exact .v | exact .lst | exact .rptr | exact .all rfl rfl | exact .nil | exact .clo' trivial)) | exact .one (.clo' (by repeat (first | exact trivial | refine ⟨?_, ?_⟩ | exact .v | exact .lst | exact .rptr | exact .all rfl rfl | exact .nil | exact .clo' trivial))) | exact .one (.ptr' rfl (by repeat (first | exact trivial | refine ⟨?_, ?_⟩ | exact .v | exact .lst | exact .rptr | exact .all rfl rfl | exact .nil | exact .clo' trivial))))) (Nat.le_of_ble_eq_true rfl) ?_
  refine RunT.op0 rfl rfl rfl rfl .assign ?_
  refine RunT.nil ?_
  refine T.ret ?_
  exact RetOk.v rfl rfl rfl

theorem told_pc : PC Try.prog false 14 [] (.v (.bool (true))) := by
  refine PC.of_T Try.func14 rfl rfl (n := 58) rfl rfl (.inr rfl) ?_
  intro base B w0
  refine T.seq ?_
  refine T.region ?_
  refine RunT.op0 rfl rfl rfl rfl .assign ?_
  refine RunT.nil ?_
  refine T.seq ?_
  refine T.region ?_
  refine RunT.op0 rfl rfl rfl rfl (.bu bu23 rfl) ?_
  refine RunT.call0 rfl rfl rfl rfl rfl rfl ((may_pc ⟨2, 1⟩ : PC Try.prog false 15 _ (.v (.bool true)))) (by repeat (first | exact trivial | refine ⟨?_, ?_⟩ | exact .one .v | exact .one .lst | exact .one .rptr | exact .one (.all rfl rfl) | exact .one .nil | exact .agg' (by repeat (first | exact trivial | refine ⟨?_, ?_⟩ | exact .v | exact .lst | exact .rptr | exact .all rfl rfl | exact .nil | exact .clo' trivial)) | exact .one (.clo' (by repeat (first | exact trivial | refine ⟨?_, ?_⟩ | exact .v | exact .lst | exact .rptr | exact .all rfl rfl | exact .nil | exact .clo' trivial))) | exact .one (.ptr' rfl (by repeat (first | exact trivial | refine ⟨?_, ?_⟩ | exact .v | exact .lst | exact .rptr | exact .all rfl rfl | exact .nil | exact .clo' trivial))))) (Nat.le_of_ble_eq_true rfl) ?_
  refine RunT.op0 rfl rfl rfl rfl .move ?_
  refine RunT.opg rfl rfl rfl rfl rfl rfl (.bu bu23 rfl) ?_
  refine RunT.callg rfl rfl rfl rfl rfl rfl rfl rfl ((may_pc ⟨1, 1⟩ : PC Try.prog false 15 _ (.v (.bool false)))) (by repeat (first | exact trivial | refine ⟨?_, ?_⟩ | exact .one .v | exact .one .lst | exact .one .rptr | exact .one (.all rfl rfl) | exact .one .nil | exact .agg' (by repeat (first | exact trivial | refine ⟨?_, ?_⟩ | exact .v | exact .lst | exact .rptr | exact .all rfl rfl | exact .nil | exact .clo' trivial)) | exact .one (.clo' (by repeat (first | exact trivial | refine ⟨?_, ?_⟩ | exact .v | exact .lst | exact .rptr | exact .all rfl rfl | exact .nil | exact .clo' trivial))) | exact .one (.ptr' rfl (by repeat (first | exact trivial | refine ⟨?_, ?_⟩ | exact .v | exact .lst | exact .rptr | exact .all rfl rfl | exact .nil | exact .clo' trivial))))) (Nat.le_of_ble_eq_true rfl) ?_
  refine RunT.opg rfl rfl rfl rfl rfl rfl (.un rfl (fun w => u_not w) rfl) ?_
  refine RunT.op0 rfl rfl rfl rfl (.pick rfl) ?_
  refine RunT.op0 rfl rfl rfl rfl .move ?_
  refine RunT.opg rfl rfl rfl rfl rfl rfl (.bu bu23 rfl) ?_
  refine RunT.callg rfl rfl rfl rfl rfl rfl rfl rfl ((may_pc ⟨0, 0⟩ : PC Try.prog false 15 _ (.v (.bool false)))) (by repeat (first | exact trivial | refine ⟨?_, ?_⟩ | exact .one .v | exact .one .lst | exact .one .rptr | exact .one (.all rfl rfl) | exact .one .nil | exact .agg' (by repeat (first | exact trivial | refine ⟨?_, ?_⟩ | exact .v | exact .lst | exact .rptr | exact .all rfl rfl | exact .nil | exact .clo' trivial)) | exact .one (.clo' (by repeat (first | exact trivial | refine ⟨?_, ?_⟩ | exact .v | exact .lst | exact .rptr | exact .all rfl rfl | exact .nil | exact .clo' trivial))) | exact .one (.ptr' rfl (by repeat (first | exact trivial | refine ⟨?_, ?_⟩ | exact .v | exact .lst | exact .rptr | exact .all rfl rfl | exact .nil | exact .clo' trivial))))) (Nat.le_of_ble_eq_true rfl) ?_
  refine RunT.opg rfl rfl rfl rfl rfl rfl (.un rfl (fun w => u_not w) rfl) ?_
  refine RunT.op0 rfl rfl rfl rfl (.pick rfl) ?_
  refine RunT.op0 rfl rfl rfl rfl .move ?_
  refine RunT.opg rfl rfl rfl rfl rfl rfl (.bu bu23 rfl) ?_
  refine RunT.callg rfl rfl rfl rfl rfl rfl rfl rfl ((may_pc ⟨8, 0⟩ : PC Try.prog false 15 _ (.v (.bool true)))) (by repeat (first | exact trivial | refine ⟨?_, ?_⟩ | exact .one .v | exact .one .lst | exact .one .rptr | exact .one (.all rfl rfl) | exact .one .nil | exact .agg' (by repeat (first | exact trivial | refine ⟨?_, ?_⟩ | exact .v | exact .lst | exact .rptr | exact .all rfl rfl | exact .nil | exact .clo' trivial)) | exact .one (.clo' (by repeat (first | exact trivial | refine ⟨?_, ?_⟩ | exact .v | exact .lst | exact .rptr | exact .all rfl rfl | exact .nil | exact .clo' trivial))) | exact .one (.ptr' rfl (by repeat (first | exact trivial | refine ⟨?_, ?_⟩ | exact .v | exact .lst | exact .rptr | exact .all rfl rfl | exact .nil | exact .clo' trivial))))) (Nat.le_of_ble_eq_true rfl) ?_
  refine RunT.op0 rfl rfl rfl rfl (.pick rfl) ?_
  refine RunT.op0 rfl rfl rfl rfl .move ?_
  refine RunT.opg rfl rfl rfl rfl rfl rfl (.bu bu23 rfl) ?_
  refine RunT.callg rfl rfl rfl rfl rfl rfl rfl rfl ((may_pc ⟨9, 0⟩ : PC Try.prog false 15 _ (.v (.bool false)))) (by repeat (first | exact trivial | refine ⟨?_, ?_⟩ | exact .one .v | exact .one .lst | exact .one .rptr | exact .one (.all rfl rfl) | exact .one .nil | exact .agg' (by repeat (first | exact trivial | refine ⟨?_, ?_⟩ | exact .v | exact .lst | exact .rptr | exact .all rfl rfl | exact .nil | exact .clo' trivial)) | exact .one (.clo' (by repeat (first | exact trivial | refine ⟨?_, ?_⟩ | exact .v | exact .lst | exact .rptr | exact .all rfl rfl | exact .nil | exact .clo' trivial))) | exact .one (.ptr' rfl (by repeat (first | exact trivial | refine ⟨?_, ?_⟩ | exact .v | exact .lst | exact .rptr | exact .all rfl rfl | exact .nil | exact .clo' trivial))))) (Nat.le_of_ble_eq_true rfl) ?_
  refine RunT.opg rfl rfl rfl rfl rfl rfl (.un rfl (fun w => u_not w) rfl) ?_
  refine RunT.op0 rfl rfl rfl rfl (.pick rfl) ?_
  refine RunT.op0 rfl rfl rfl rfl .move ?_
  refine RunT.opg rfl rfl rfl rfl rfl rfl (.bu bu23 rfl) ?_
  refine RunT.callg rfl rfl rfl rfl rfl rfl rfl rfl ((may_pc ⟨8, 3⟩ : PC Try.prog false 15 _ (.v (.bool false)))) (by repeat (first | exact trivial | refine ⟨?_, ?_⟩ | exact .one .v | exact .one .lst | exact .one .rptr | exact .one (.all rfl rfl) | exact .one .nil | exact .agg' (by repeat (first | exact trivial | refine ⟨?_, ?_⟩ | exact .v | exact .lst | exact .rptr | exact .all rfl rfl | exact .nil | exact .clo' trivial)) | exact .one (.clo' (by repeat (first | exact trivial | refine ⟨?_, ?_⟩ | exact .v | exact .lst | exact .rptr | exact .all rfl rfl | exact .nil | exact .clo' trivial))) | exact .one (.ptr' rfl (by repeat (first | exact trivial | refine ⟨?_, ?_⟩ | exact .v | exact .lst | exact .rptr | exact .all rfl rfl | exact .nil | exact .clo' trivial))))) (Nat.le_of_ble_eq_true rfl) ?_
  refine RunT.opg rfl rfl rfl rfl rfl rfl (.un rfl (fun w => u_not w) rfl) ?_
  refine RunT.op0 rfl rfl rfl rfl (.pick rfl) ?_
  refine RunT.op0 rfl rfl rfl rfl .move ?_
  refine RunT.callg rfl rfl rfl rfl rfl rfl rfl rfl ((all_pc [] : PC Try.prog false 17 _ (.v (.bool true)))) (by repeat (first | exact trivial | refine ⟨?_, ?_⟩ | exact .one .v | exact .one .lst | exact .one .rptr | exact .one (.all rfl rfl) | exact .one .nil | exact .agg' (by repeat (first | exact trivial | refine ⟨?_, ?_⟩ | exact .v | exact .lst | exact .rptr | exact .all rfl rfl | exact .nil | exact .clo' trivial)) | exact .one (.clo' (by repeat (first | exact trivial | refine ⟨?_, ?_⟩ | exact .v | exact .lst | exact .rptr | exact .all rfl rfl | exact .nil | exact .clo' trivial))) | exact .one (.ptr' rfl (by repeat (first | exact trivial | refine ⟨?_, ?_⟩ | exact .v | exact .lst | exact .rptr | exact .all rfl rfl | exact .nil | exact .clo' trivial))))) (Nat.le_of_ble_eq_true rfl) ?_
  refine RunT.op0 rfl rfl rfl rfl (.pick rfl) ?_
  refine RunT.op0 rfl rfl rfl rfl .move ?_
  refine RunT.opg rfl rfl rfl rfl rfl rfl (.bu bu23 rfl) ?_
  refine RunT.opg rfl rfl rfl rfl rfl rfl (.bslice (d := false) sl24 rfl rfl (by intro y hy; rcases List.mem_cons.1 hy with rfl | hy; exact ⟨rfl, rfl, fun _ => rfl⟩; exact (List.not_mem_nil hy).elim) (by decide)) ?_
  refine RunT.callg rfl rfl rfl rfl rfl rfl rfl rfl ((all_pc [⟨0, 0⟩] : PC Try.prog false 17 _ (.v (.bool false)))) (by repeat (first | exact trivial | refine ⟨?_, ?_⟩ | exact .one .v | exact .one .lst | exact .one .rptr | exact .one (.all rfl rfl) | exact .one .nil | exact .agg' (by repeat (first | exact trivial | refine ⟨?_, ?_⟩ | exact .v | exact .lst | exact .rptr | exact .all rfl rfl | exact .nil | exact .clo' trivial)) | exact .one (.clo' (by repeat (first | exact trivial | refine ⟨?_, ?_⟩ | exact .v | exact .lst | exact .rptr | exact .all rfl rfl | exact .nil | exact .clo' trivial))) | exact .one (.ptr' rfl (by repeat (first | exact trivial | refine ⟨?_, ?_⟩ | exact .v | exact .lst | exact .rptr | exact .all rfl rfl | exact .nil | exact .clo' trivial))))) (Nat.le_of_ble_eq_true rfl) ?_
  refine RunT.opg rfl rfl rfl rfl rfl rfl (.un rfl (fun w => u_not w) rfl) ?_
  refine RunT.op0 rfl rfl rfl rfl (.pick rfl) ?_
  refine RunT.op0 rfl rfl rfl rfl .move ?_
  refine RunT.opg rfl rfl rfl rfl rfl rfl (.bu bu23 rfl) ?_
  refine RunT.opg rfl rfl rfl rfl rfl rfl (.bu bu23 rfl) ?_
  refine RunT.opg rfl rfl rfl rfl rfl rfl (.bslice (d := false) sl24 rfl rfl (by intro y hy; rcases List.mem_cons.1 hy with rfl | hy; exact ⟨rfl, rfl, fun _ => rfl⟩; rcases List.mem_cons.1 hy with rfl | hy; exact ⟨rfl, rfl, fun _ => rfl⟩; exact (List.not_mem_nil hy).elim) (by decide)) ?_
  refine RunT.callg rfl rfl rfl rfl rfl rfl rfl rfl ((sum_pc [⟨2, 0⟩, ⟨3, 0⟩] : PC Try.prog false 19 _ (.v (.int .i64 5)))) (by repeat (first | exact trivial | refine ⟨?_, ?_⟩ | exact .one .v | exact .one .lst | exact .one .rptr | exact .one (.all rfl rfl) | exact .one .nil | exact .agg' (by repeat (first | exact trivial | refine ⟨?_, ?_⟩ | exact .v | exact .lst | exact .rptr | exact .all rfl rfl | exact .nil | exact .clo' trivial)) | exact .one (.clo' (by repeat (first | exact trivial | refine ⟨?_, ?_⟩ | exact .v | exact .lst | exact .rptr | exact .all rfl rfl | exact .nil | exact .clo' trivial))) | exact .one (.ptr' rfl (by repeat (first | exact trivial | refine ⟨?_, ?_⟩ | exact .v | exact .lst | exact .rptr | exact .all rfl rfl | exact .nil | exact .clo' trivial))))) (Nat.le_of_ble_eq_true rfl) ?_
  refine RunT.opg rfl rfl rfl rfl rfl rfl (.bin rfl rfl (fun w => b_eql w) rfl) ?_
  refine RunT.op0 rfl rfl rfl rfl (.pick rfl) ?_
  refine RunT.op0 rfl rfl rfl rfl .move ?_
  refine RunT.opg rfl rfl rfl rfl rfl rfl (.bu bu23 rfl) ?_
  refine RunT.opg rfl rfl rfl rfl rfl rfl (.bslice (d := false) sl24 rfl rfl (by intro y hy; rcases List.mem_cons.1 hy with rfl | hy; exact ⟨rfl, rfl, fun _ => rfl⟩; exact (List.not_mem_nil hy).elim) (by decide)) ?_
  refine RunT.callg rfl rfl rfl rfl rfl rfl rfl rfl ((sum_pc [⟨9, 0⟩] : PC Try.prog false 19 _ (.v (.int .i64 0)))) (by repeat (first | exact trivial | refine ⟨?_, ?_⟩ | exact .one .v | exact .one .lst | exact .one .rptr | exact .one (.all rfl rfl) | exact .one .nil | exact .agg' (by repeat (first | exact trivial | refine ⟨?_, ?_⟩ | exact .v | exact .lst | exact .rptr | exact .all rfl rfl | exact .nil | exact .clo' trivial)) | exact .one (.clo' (by repeat (first | exact trivial | refine ⟨?_, ?_⟩ | exact .v | exact .lst | exact .rptr | exact .all rfl rfl | exact .nil | exact .clo' trivial))) | exact .one (.ptr' rfl (by repeat (first | exact trivial | refine ⟨?_, ?_⟩ | exact .v | exact .lst | exact .rptr | exact .all rfl rfl | exact .nil | exact .clo' trivial))))) (Nat.le_of_ble_eq_true rfl) ?_
  refine RunT.opg rfl rfl rfl rfl rfl rfl (.bin rfl rfl (fun w => b_eql w) rfl) ?_
  refine RunT.op0 rfl rfl rfl rfl (.pick rfl) ?_
  refine RunT.op0 rfl rfl rfl rfl .move ?_
  refine RunT.callg rfl rfl rfl rfl rfl rfl rfl rfl ((same_pc [] [] (by decide) : PC Try.prog false 21 _ (.v (.bool true)))) (by repeat (first | exact trivial | refine ⟨?_, ?_⟩ | exact .one .v | exact .one .lst | exact .one .rptr | exact .one (.all rfl rfl) | exact .one .nil | exact .agg' (by repeat (first | exact trivial | refine ⟨?_, ?_⟩ | exact .v | exact .lst | exact .rptr | exact .all rfl rfl | exact .nil | exact .clo' trivial)) | exact .one (.clo' (by repeat (first | exact trivial | refine ⟨?_, ?_⟩ | exact .v | exact .lst | exact .rptr | exact .all rfl rfl | exact .nil | exact .clo' trivial))) | exact .one (.ptr' rfl (by repeat (first | exact trivial | refine ⟨?_, ?_⟩ | exact .v | exact .lst | exact .rptr | exact .all rfl rfl | exact .nil | exact .clo' trivial))))) (Nat.le_of_ble_eq_true rfl) ?_
  refine RunT.op0 rfl rfl rfl rfl (.pick rfl) ?_
  refine RunT.op0 rfl rfl rfl rfl .move ?_
  refine RunT.opg rfl rfl rfl rfl rfl rfl (.bu bu23 rfl) ?_
  refine RunT.opg rfl rfl rfl rfl rfl rfl (.bslice (d := false) sl24 rfl rfl (by intro y hy; rcases List.mem_cons.1 hy with rfl | hy; exact ⟨rfl, rfl, fun _ => rfl⟩; exact (List.not_mem_nil hy).elim) (by decide)) ?_
  refine RunT.callg rfl rfl rfl rfl rfl rfl rfl rfl ((same_pc [] [⟨0, 0⟩] (by decide) : PC Try.prog false 21 _ (.v (.bool false)))) (by repeat (first | exact trivial | refine ⟨?_, ?_⟩ | exact .one .v | exact .one .lst | exact .one .rptr | exact .one (.all rfl rfl) | exact .one .nil | exact .agg' (by repeat (first | exact trivial | refine ⟨?_, ?_⟩ | exact .v | exact .lst | exact .rptr | exact .all rfl rfl | exact .nil | exact .clo' trivial)) | exact .one (.clo' (by repeat (first | exact trivial | refine ⟨?_, ?_⟩ | exact .v | exact .lst | exact .rptr | exact .all rfl rfl | exact .nil | exact .clo' trivial))) | exact .one (.ptr' rfl (by repeat (first | exact trivial | refine ⟨?_, ?_⟩ | exact .v | exact .lst | exact .rptr | exact .all rfl rfl | exact .nil | exact .clo' trivial))))) (Nat.le_of_ble_eq_true rfl) ?_
  refine RunT.opg rfl rfl rfl rfl rfl rfl (.un rfl (fun w => u_not w) rfl) ?_
  refine RunT.op0 rfl rfl rfl rfl (.pick rfl) ?_
  refine RunT.op0 rfl rfl rfl rfl .assign ?_
  refine RunT.nil ?_
  refine T.ret ?_
  exact RetOk.v rfl rfl rfl

theorem sumS_bd {l : List Pty} (h : ∀ p, p ∈ l → p.may = true) : 0 ≤ sumS l ∧ sumS l ≤ 8 * (l.length : Int) := by
  induction l with
  | nil => exact ⟨Int.le_refl _, Int.le_refl _⟩
  | cons a r ih =>
    have h1 := may_get (h a (by simp))
    have h2 := ih (fun p hp => h p (by simp [hp]))
    have e : sumS (a :: r) = a.s + sumS r := rfl
    rw [e, List.length_cons]
    omega
theorem sumP_bd (l : List Pty) : 0 ≤ sumP l ∧ sumP l ≤ 4096 := by
  unfold sumP
  split
  · rename_i h
    obtain ⟨h1, h2⟩ := allP_get h
    have := sumS_bd (l := l) (fun p hp => by obtain ⟨j, hj⟩ := List.getElem?_of_mem hp; exact h2 j p hj)
    omega
  · omega
theorem allP_app {a b : List Pty} (ha : a.length ≤ 20) (hb : b.length ≤ 20) : allP (a ++ b) = (allP a && allP b) := by
  unfold allP
  rw [List.all_append, decide_eq_true (by simp; omega), decide_eq_true (by omega), decide_eq_true (by omega)]
  simp
theorem sumP_app {a b : List Pty} (h : allP (a ++ b) = true) (ha : allP a = true) (hb : allP b = true) : sumP (a ++ b) = sumP a + sumP b := by
  simp only [sumP, h, ha, hb, if_true, sumS, List.map_append, List.sum_append]
theorem sumS_rep (n : Nat) : sumS (List.replicate n ⟨2, 0⟩) = 2 * (n : Int) := by
  induction n with
  | zero => rfl
  | succ n ih =>
    have e : sumS (List.replicate (n + 1) ⟨2, 0⟩) = 2 + sumS (List.replicate n ⟨2, 0⟩) := rfl
    rw [e, ih]
    omega
theorem all_rep (n : Nat) : (List.replicate n (⟨2, 0⟩ : Pty)).all Pty.may = true := by
  rw [List.all_eq_true]
  intro x hx
  rw [(List.mem_replicate.1 hx).2]
  rfl
theorem um (a m : Int) (h : 0 < m) (h2 : m ≤ 4294967296) : ∃ x, IntKind.i64.wrap ((IntKind.u64.wrap a).tmod m) = x ∧ 0 ≤ x ∧ x < m := by
  have h0 : 0 ≤ IntKind.u64.wrap a := by
    have := IntKind.wrap_u64 (n := a)
    rw [this]; omega
  refine ⟨_, rfl, ?_⟩
  have h3 : 0 ≤ (IntKind.u64.wrap a).tmod m := Int.tmod_nonneg _ h0
  have h4 : (IntKind.u64.wrap a).tmod m < m := Int.tmod_lt_of_pos _ h
  rw [w64 (by omega) (by omega)]
  exact ⟨h3, h4⟩
theorem c_int' {s d : TypeId} {k k' : IntKind} {a r : Int} (hs : ∃ e, Try.prog.underlying s = some e) (hd : Try.prog.underlying d = some (.int k')) (hr : k'.wrap a = r) (w : World) : (convert s d (.int k a)).run Try.prog w = .ok (.int k' r) w := by
  rw [← hr]
  exact c_int w hs hd
theorem o3 : Opens Try.prog 3 1 (fun n : Int => [SV.v (.int .i64 n)]) (fun n => (Lit.int .i64 n).wf = true) := opens_int Try.underlying3 (by kernel_rfl)
theorem o23 : Opens Try.prog 23 2 (fun p : Pty => [.v (.int .i64 p.s), .v (.int .i64 p.w)]) (fun _ => True) :=
  (Opens.struct Try.underlying23 (by kernel_rfl) (OpensL.cons rfl o3 (OpensL.cons rfl o3 OpensL.nil))).map (fun x => ⟨x.1, x.2.1⟩) (fun _ => rfl) (fun _ _ => trivial) (fun _ => rfl)
theorem o24 : Opens Try.prog 24 1 (fun l : List Pty => [SV.lst (l.map pS)]) (fun l => l.length ≤ maxLen ∧ ∀ x, x ∈ l → True) := opens_slice Try.underlying24 (by kernel_rfl) o23 (by decide) pS (fun _ => rfl)
theorem mC (l : List Pty) : ∀ y, y ∈ l.map pS → y.cells.length = 2 := by
  intro y hy
  obtain ⟨p, _, rfl⟩ := List.mem_map.1 hy
  rfl
theorem pairB (p : Pty) : allP [⟨1, 0⟩, p] = p.may := by
  have : (⟨1, 0⟩ : Pty).may = true := rfl
  simp [allP, this]

end Go.Proofs.Ytijfhnpmdhonhaa
