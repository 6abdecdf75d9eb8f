/- Vectors as keys of a map. -/
import Derived.Test.YtjpklbkeofjppaaRow
import Derived.Test.YtjpklbkeofjppaaVec
import Derived.DeepKeys4
import Derived.Maps.OwnIn
import Derived.Maps.Views
import Derived.Test.YtjpklbkeofjppaaBases
namespace Go.Proofs.Ytjpklbkeofjppaa
open Go.RowKit Go.Shelf

theorem antWide : (match Try.prog.underlying 38 with | some (.array _ _) | some (.struct _) => true | _ => false) = true := by kernel_rfl
theorem antKeyed : Go.Maps.Keyed Try.prog 38 := Go.Maps.Keyed.of_law (deep_law_laid Try.laidOut (m := 2) (by omega) (of_decide_eq_true (by kernel_rfl)) (by kernel_rfl) antWide)
theorem antTypes : ∃ m, Try.prog.types.size = m + 2 := ⟨Try.prog.types.size - 2, by kernel_rfl⟩
theorem antKeyType : Try.prog.keyType 38 = true := by kernel_rfl
theorem antCells : Try.prog.cellsOf 38 = 2 := by kernel_rfl
theorem intCells : Try.prog.cellsOf 3 = 1 := by kernel_rfl
theorem wf64 {x : Int} (h : -2000 ≤ x ∧ x ≤ 2000) : (Lit.int .i64 x).wf = true := by
  simp only [Lit.wf, Bool.and_eq_true, decide_eq_true_eq]
  have a : IntKind.i64.min = -9223372036854775808 := by decide
  have b : IntKind.i64.max = 9223372036854775807 := by decide
  omega
def kl2 (p : Int × Int) : Lit := .string (keyBytes [.int .i64 p.1, .int .i64 p.2])
theorem key_ant (p : Int × Int) (h : (-2000 ≤ p.1 ∧ p.1 ≤ 2000) ∧ -2000 ≤ p.2 ∧ p.2 ≤ 2000) : keyOf Try.prog 38 (gv p) = some (kl2 p) := by
  have w1 := wf64 h.1
  have w2 := wf64 h.2
  unfold keyOf
  rw [Try.underlying38]
  have hf : (gv p).formed Try.prog 38 = true := by simp [gv, Value.formed, Try.underlying38, antCells]
  have hk : Try.prog.keyLits (Try.prog.types.size + 1) 38 (gv p).cells.toList = some [.int .i64 p.1, .int .i64 p.2] := by
    obtain ⟨m, hm⟩ := antTypes
    rw [hm]
    have hfs : ∃ fs, Try.prog.underlying 38 = some (.struct fs) := ⟨_, Try.underlying38⟩
    simp [Program.keyLits, Try.underlying38, Try.underlying3, antCells, intCells, gv, Value.cells, w1, w2]
  simp only [antKeyType, hf, hk, Bool.and_self, if_true, Option.map_some]
  rfl
theorem klk (p : Int × Int) : WideAt.IsKeyLit (kl2 p) := by unfold kl2; trivial
def Bd (p : Int × Int) : Prop := (-2000 ≤ p.1 ∧ p.1 ≤ 2000) ∧ -2000 ≤ p.2 ∧ p.2 ≤ 2000
theorem Bd.neg {p : Int × Int} (h : Bd p) : Bd (Vm.neg p) := by
  unfold Bd at h ⊢
  simp only [Vm.neg]
  omega
theorem kl2_inj {p q : Int × Int} (hp : Bd p) (hq : Bd q) (h : kl2 p = kl2 q) : p = q := by
  have := antKeyed.inj (key_ant p hp) (by rw [h]; exact key_ant q hq)
  simp only [gv, Value.agg.injEq] at this
  exact Prod.ext (by simp at this; exact this.1) (by simp at this; exact this.2)
/-- What the map knows after the vectors vs. -/
structure Kn (vs : List (Int × Int)) (D : DataW Unit) : Prop where
  isMap : Go.Maps.IsMap D
  has : ∀ p, Bd p → Go.Maps.has D (kl2 p) = vs.any (Vm.rel p)
  at' : ∀ p, Bd p → vs.any (Vm.rel p) = true → ∀ z, D.atKey (kl2 p) z = .lit (.int .i64 (Vm.fst vs p))
theorem Kn.nil : Kn [] (.map []) := ⟨⟨_, rfl⟩, fun _ _ => rfl, fun _ _ h => by cases h⟩
theorem Kn.old {vs : List (Int × Int)} {D : DataW Unit} {x : Int × Int} (h : Kn vs D) (hx : vs.any (Vm.rel x) = true) : Kn (vs ++ [x]) D := by
  have e : ∀ p, (vs ++ [x]).any (Vm.rel p) = vs.any (Vm.rel p) := fun p => by
    rw [List.any_append]
    cases hp : vs.any (Vm.rel p)
    · rw [Bool.false_or, Bool.eq_false_iff]
      intro e
      simp at e
      obtain ⟨y, hy, hr⟩ := List.any_eq_true.1 hx
      exact List.any_eq_false.1 hp y hy (Vm.rel_trans e hr)
    · rfl
  refine ⟨h.isMap, fun p hp => by rw [e, h.has p hp], fun p hp hh z => ?_⟩
  rw [e] at hh
  rw [h.at' p hp hh z, Vm.fst_pre hh]
theorem Kn.new {vs : List (Int × Int)} {D : DataW Unit} {x : Int × Int} (h : Kn vs D) (hb : Bd x) (hx : vs.any (Vm.rel x) = false) :
    Kn (vs ++ [x]) ((D.put (kl2 x) (.lit (.int .i64 (vs.length : Int)))).put (kl2 (Vm.neg x)) (.lit (.int .i64 (vs.length : Int)))) := by
  have m1 : Go.Maps.IsMap (D.put (kl2 x) (.lit (.int .i64 (vs.length : Int)))) := h.isMap.put _ _
  have hrel : ∀ p, Bd p → Vm.rel p x = true → (Go.Maps.has ((D.put (kl2 x) (.lit (.int .i64 (vs.length : Int)))).put (kl2 (Vm.neg x)) (.lit (.int .i64 (vs.length : Int)))) (kl2 p) = true ∧ ∀ z, ((D.put (kl2 x) (.lit (.int .i64 (vs.length : Int)))).put (kl2 (Vm.neg x)) (.lit (.int .i64 (vs.length : Int)))).atKey (kl2 p) z = .lit (.int .i64 (vs.length : Int))) := by
    intro p hp hr
    by_cases e : p = Vm.neg x
    · subst e
      exact ⟨Go.Maps.has_put_same m1 (klk _) _, fun z => Go.Maps.atKey_put_same m1 (klk _) _ _⟩
    · have e2 : p = x := by
        rcases (Vm.rel_iff _ _).1 (Vm.rel_symm hr) with e' | e'
        · exact e'
        · exact absurd e' e
      subst e2
      have hne : kl2 p ≠ kl2 (Vm.neg p) := fun e' => e (kl2_inj hp hp.neg e')
      exact ⟨by rw [Go.Maps.has_put_other hne]; exact Go.Maps.has_put_same h.isMap (klk _) _, fun z => by rw [Go.Maps.atKey_put_other hne]; exact Go.Maps.atKey_put_same h.isMap (klk _) _ _⟩
  have hno : ∀ p, Bd p → Vm.rel p x = false → kl2 p ≠ kl2 x ∧ kl2 p ≠ kl2 (Vm.neg x) := fun p hp hr => by
    refine ⟨fun e => ?_, fun e => ?_⟩
    · rw [kl2_inj hp hb e, Vm.rel_self] at hr; cases hr
    · rw [kl2_inj hp hb.neg e, Vm.rel_neg, Vm.rel_self] at hr; cases hr
  have hany : ∀ p, (vs ++ [x]).any (Vm.rel p) = (vs.any (Vm.rel p) || Vm.rel p x) := fun p => by rw [List.any_append]; simp
  have hlen : ∀ p, Vm.rel p x = true → Vm.fst (vs ++ [x]) p = vs.length := fun p hr => by
    rcases (Vm.rel_iff _ _).1 (Vm.rel_symm hr) with e | e
    · rw [e]; exact Vm.fst_new hx
    · rw [e, Vm.fst_neg]; exact Vm.fst_new hx
  refine ⟨m1.put _ _, fun p hp => ?_, fun p hp hh z => ?_⟩
  · rw [hany]
    cases hr : Vm.rel p x
    · obtain ⟨n1, n2⟩ := hno p hp hr
      rw [Go.Maps.has_put_other n2, Go.Maps.has_put_other n1, h.has p hp, Bool.or_false]
    · rw [(hrel p hp hr).1, Bool.or_true]
  · cases hr : Vm.rel p x
    · obtain ⟨n1, n2⟩ := hno p hp hr
      rw [hany, hr, Bool.or_false] at hh
      rw [Go.Maps.atKey_put_other n2, Go.Maps.atKey_put_other n1, h.at' p hp hh z, Vm.fst_pre hh]
    · rw [(hrel p hp hr).2 z, hlen p hr]
/-- A block that is such a map. -/
def MapI (B : Nat) (vs : List (Int × Int)) (W : World) : Prop := ∃ (n : Nat) (D : DataW Unit), W.ownsMap Try.prog 38 (plainElem Try.prog 3) B n D ∧ n ≤ 2 * vs.length ∧ Kn vs D
theorem MapI.kept {B : Nat} {vs : List (Int × Int)} {W W' : World} {row : Option Nat} (h : MapI B vs W) (hg : W.grownBy W' row) (hne : some B ≠ row) : MapI B vs W' := by
  obtain ⟨n, D, h1, h2, h3⟩ := h
  exact ⟨n, D, h1.kept hg hne, h2, h3⟩
theorem MapI.lt {B : Nat} {vs : List (Int × Int)} {W : World} (h : MapI B vs W) : B < W.heap.size := by
  obtain ⟨n, D, h1, h2, h3⟩ := h
  exact h1.lt
theorem MapI.after {B : Nat} {vs : List (Int × Int)} {W W' : World} (h : MapI B vs W) (hb : Below W.heap.size W W') : MapI B vs W' := by
  have hlt := h.lt
  obtain ⟨n, D, ⟨es, clock, hh, F, hs, hD⟩, h2, h3⟩ := h
  exact ⟨n, D, ⟨es, clock, (hb.block B hlt).trans hh, F, hs, hD⟩, h2, h3⟩
theorem ownFrom_map (B' B : Nat) (f : List (Nat × Nat) → List (Int × Int)) (hlt : B < B') : OwnFrom B' (fun pre W => MapI B (f pre) W) := fun _ _ _ row hs hg hr =>
  MapI.kept hs hg (fun e => by have := (hr B e.symm).1; omega)
end Go.Proofs.Ytjpklbkeofjppaa
