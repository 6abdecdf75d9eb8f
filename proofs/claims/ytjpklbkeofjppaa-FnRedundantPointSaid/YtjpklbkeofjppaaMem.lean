/- Words for memory: a slice that reads as a list of cells; how it is kept. -/
import Derived.WalkKit
import Derived.Handy
import Derived.Laws.CopyOwn
import Derived.Maps.AppendAt
import Derived.Deep.AppendLies
import Derived.Deep.Draws
import Derived.Deep.QuietTactic
import Derived.BigQuiet
import Derived.Deep.RegionHeld3
import Derived.Lib.Hide
import Derived.Outline
import Derived.WalkLawsBesides
namespace Go.Proofs.Ytjpklbkeofjppaa
open Go.RowKit

theorem block_of_add (a : Addr) (n : Nat) : (a.add n).block = a.block := by unfold Addr.add; split <;> rfl

theorem bcell {W w1 : World} (hb : Below W.heap.size W w1) : (∀ b o, b < W.heap.size → w1.cell? ⟨b, o, none⟩ = W.cell? ⟨b, o, none⟩) ∧ (∀ b o, b < W.heap.size → w1.frozen? ⟨b, o, none⟩ = W.frozen? ⟨b, o, none⟩) :=
  ⟨fun b o h => hb.cell (p := ⟨b, o, none⟩) h, fun b o h => hb.frozen (p := ⟨b, o, none⟩) h⟩

theorem b0 (w : World) : Below w.heap.size w w := Below.refl _ _
theorem bA {a w : World} (h : Below a.heap.size a w) (o : Obj) : Below a.heap.size a (w.alloc o) := h.alloc h.size o
theorem bT {a w w' : World} (h : Below a.heap.size a w) (k : Below w.heap.size w w') : Below a.heap.size a w' := h.trans (k.mono h.size)
theorem bS {a w : World} (h : Below a.heap.size a w) {p : Addr} (hp : a.heap.size ≤ p.block) (u : Value) : Below a.heap.size a (w.setCell p u) := h.setCell hp u
theorem bD {a w : World} (h : Below a.heap.size a w) (n : Nat) : Below a.heap.size a (w.drewN n) := ⟨h.os, h.tape, h.output, h.size, h.block⟩

/-- The slice '.slice A n c', each element of 'size' cells, reads as the cells xs; it lies below block B. -/
structure Rd (w : World) (B size : Nat) (A : Option Addr) (n c : Nat) (xs : List Value) : Prop where
  len : xs.length = n * size
  cap : n ≤ c
  most : c ≤ 9223372036854775807
  at_ : 0 < n → ∃ b off, A = some ⟨b, off, none⟩ ∧ b < B ∧ ∀ j u, xs[j]? = some u → w.cell? ⟨b, off + j, none⟩ = some u

def ci (L : List Int) : List Value := L.map (Value.int .i64)
def cp (L : List (Int × Int)) : List Value := L.flatMap fun p => [.int .i64 p.1, .int .i64 p.2]

theorem ci_length (L : List Int) : (ci L).length = L.length := by simp [ci]
theorem cp_length (L : List (Int × Int)) : (cp L).length = L.length * 2 := by
  induction L with
  | nil => rfl
  | cons a l ih => simp only [cp, List.flatMap_cons, List.length_append, List.length_cons, List.length_nil] at ih ⊢; omega
theorem ci_at (L : List Int) (k : Nat) (h : k < L.length) : (ci L)[k]? = some (.int .i64 L[k]) := by simp [ci, h]
theorem cp_at (L : List (Int × Int)) (k : Nat) (h : k < L.length) : (cp L)[2 * k]? = some (.int .i64 L[k].1) ∧ (cp L)[2 * k + 1]? = some (.int .i64 L[k].2) := by
  induction L generalizing k with
  | nil => simp at h
  | cons a l ih =>
    cases k with
    | zero => simp [cp]
    | succ k =>
      have := ih k (by simpa using h)
      simp only [cp, List.flatMap_cons, List.cons_append, List.nil_append, List.getElem_cons_succ] at this ⊢
      rw [show 2 * (k + 1) = 2 * k + 1 + 1 from by omega, show 2 * k + 1 + 1 + 1 = (2 * k + 1) + 1 + 1 from rfl]
      simpa using this
theorem cp_set (L : List (Int × Int)) (k : Nat) (p : Int × Int) : cp (L.set k p) = ((cp L).set (k * 2) (.int .i64 p.1)).set (k * 2 + 1) (.int .i64 p.2) := by
  induction L generalizing k with
  | nil => simp [cp]
  | cons a l ih =>
    cases k with
    | zero => simp [cp]
    | succ k =>
      have := ih k
      simp only [cp, List.set_cons_succ, List.flatMap_cons, List.cons_append, List.nil_append] at this ⊢
      rw [show (k + 1) * 2 = k * 2 + 1 + 1 from by omega, show k * 2 + 1 + 1 + 1 = (k * 2 + 1) + 1 + 1 from rfl]
      simpa using this
theorem ci_set (L : List Int) (k : Nat) (x : Int) : ci (L.set k x) = (ci L).set k (.int .i64 x) := by simp [ci, List.map_set]
theorem ci_append (L M : List Int) : ci (L ++ M) = ci L ++ ci M := by simp [ci]
theorem cp_append (L M : List (Int × Int)) : cp (L ++ M) = cp L ++ cp M := by simp [cp]
theorem ci_one (L : List Int) : ∀ u ∈ ci L, u.oneCell' = true := by
  intro u hu; simp only [ci, List.mem_map] at hu; obtain ⟨x, _, rfl⟩ := hu; rfl
theorem cp_one (L : List (Int × Int)) : ∀ u ∈ cp L, u.oneCell' = true := by
  intro u hu; simp only [cp, List.mem_flatMap] at hu; obtain ⟨x, _, hx⟩ := hu
  simp at hx; rcases hx with rfl | rfl <;> rfl

section
variable {w w' : World} {B B' size n c : Nat} {A : Option Addr} {xs : List Value}
theorem Rd.keep (h : Rd w B size A n c xs) (hk : ∀ p : Addr, p.block < B → w'.cell? p = w.cell? p) : Rd w' B size A n c xs :=
  ⟨h.len, h.cap, h.most, fun hn => by
    obtain ⟨b, off, e, hb, hc⟩ := h.at_ hn
    exact ⟨b, off, e, hb, fun j u hu => (hk _ hb).trans (hc j u hu)⟩⟩
theorem Rd.more (h : Rd w B size A n c xs) (hB : B ≤ B') : Rd w B' size A n c xs :=
  ⟨h.len, h.cap, h.most, fun hn => by
    obtain ⟨b, off, e, hb, hc⟩ := h.at_ hn
    exact ⟨b, off, e, by omega, hc⟩⟩
theorem Rd.below (h : Rd w B size A n c xs) (hb : Below B w w') : Rd w' B size A n c xs := h.keep fun _ hp => hb.cell hp
/-- Kept behind a call that turns nothing old. -/
theorem Rd.after (h : Rd w w.heap.size size A n c xs) (hb : Below w.heap.size w w') : Rd w' w'.heap.size size A n c xs := (h.below hb).more hb.size
theorem Rd.nil_ (w : World) (B size : Nat) : Rd w B size none 0 0 [] := ⟨by simp, Nat.le_refl _, by omega, fun h => absurd h (by omega)⟩
theorem Rd.of_own {base : Nat} {e : TypeId} (h : w.ownsRow base e size (.slice A n c) n xs) : Rd w w.heap.size size A n c xs := by
  obtain ⟨h1, h2⟩ := h
  rcases h2 with ⟨hv, rfl⟩ | ⟨g, cap, cur, hv, hg, hh, hnc, hm, hs, hr⟩
  · injection hv with _ _ hc
    subst hc
    exact ⟨h1, Nat.le_refl _, by omega, fun h => absurd h (by omega)⟩
  · injection hv with hA _ hc
    subst hA hc
    refine ⟨h1, hnc, hm, fun _ => ⟨g, 0, rfl, ?_, fun j u hu => ?_⟩⟩
    · exact lt_of_block hh
    · rw [Nat.zero_add, cell_of_row w g j cur e (0, 0) hh]
      rw [← hr, List.getElem?_take] at hu
      split at hu
      · simpa using hu
      · cases hu
theorem own_form {base : Nat} {e : TypeId} {v : Value} (h : w.ownsRow base e size v n xs) : ∃ A c, v = .slice A n c := by
  rcases h.2 with ⟨rfl, rfl⟩ | ⟨g, cap, cur, rfl, _⟩
  · exact ⟨_, _, rfl⟩
  · exact ⟨_, _, rfl⟩
theorem Rd.take (h : Rd w B size A n c xs) (k : Nat) (hk : k ≤ n) : Rd w B size A k c (xs.take (k * size)) := by
  have hl := h.len
  refine ⟨?_, Nat.le_trans hk h.cap, h.most, fun h0 => ?_⟩
  · rw [List.length_take, hl, Nat.min_eq_left (Nat.mul_le_mul_right _ hk)]
  · obtain ⟨b, off, e, hb, hc⟩ := h.at_ (by omega)
    refine ⟨b, off, e, hb, fun j u hu => hc j u ?_⟩
    rw [List.getElem?_take] at hu
    split at hu
    · exact hu
    · cases hu
/-- Kept behind a call that turns nothing old. -/
theorem own_after {base : Nat} {e : TypeId} {v : Value} (h : w.ownsRow base e size v n xs) (hb : Below w.heap.size w w') : w'.ownsRow base e size v n xs := by
  obtain ⟨h1, h2⟩ := h
  refine ⟨h1, ?_⟩
  rcases h2 with h2 | ⟨g, cap, cur, hv, hg, hh, r⟩
  · exact .inl h2
  · exact .inr ⟨g, cap, cur, hv, hg, (hb.block g (lt_of_block hh)).trans hh, r⟩
theorem own_less {base base' : Nat} {e : TypeId} {v : Value} (h : w.ownsRow base e size v n xs) (hb : base' ≤ base) : w.ownsRow base' e size v n xs := by
  obtain ⟨h1, h2⟩ := h
  refine ⟨h1, ?_⟩
  rcases h2 with h2 | ⟨g, cap, cur, hv, hg, r⟩
  · exact .inl h2
  · exact .inr ⟨g, cap, cur, hv, by omega, r⟩
end

theorem new_cells (w : World) (cs : Array Value) (t : TypeId) : ∀ j u, cs.toList[j]? = some u → (w.alloc (.cells cs t)).cell? ((⟨w.heap.size, 0, none⟩ : Addr).add j) = some u := by
  intro j u hu
  have e : ((⟨w.heap.size, 0, none⟩ : Addr).add j) = ⟨w.heap.size, j, none⟩ := by unfold Addr.add; split <;> simp_all
  rw [e, World.cell?_alloc_at cs t _ j rfl]
  simpa using hu
theorem own_below {a w w' : World} {e : TypeId} {size n : Nat} {v : Value} {xs : List Value} (hb : Below a.heap.size a w) (h : w.ownsRow a.heap.size e size v n xs) (hg : w.grownBy w' v.ownBlock) : Below a.heap.size a w' :=
  hb.grown hg hb.size fun k hk => (h.lt k hk).1

theorem Rd.int_at {w : World} {B n c k : Nat} {A : Option Addr} {L : List Int} (h : Rd w B 1 A n c (ci L)) (hk : k < L.length) :
    ∃ b off, A = some ⟨b, off, none⟩ ∧ b < B ∧ w.cell? ⟨b, off + k, none⟩ = some (.int .i64 L[k]) := by
  have hl := h.len
  rw [ci_length] at hl
  obtain ⟨b, off, e, hb, hc⟩ := h.at_ (by omega)
  exact ⟨b, off, e, hb, hc k _ (ci_at L k hk)⟩
theorem Rd.pair_at {w : World} {B n c k : Nat} {A : Option Addr} {L : List (Int × Int)} (h : Rd w B 2 A n c (cp L)) (hk : k < L.length) :
    ∃ b off, A = some ⟨b, off, none⟩ ∧ b < B ∧ w.cell? ⟨b, off + k * 2, none⟩ = some (.int .i64 L[k].1) ∧ w.cell? ⟨b, off + k * 2 + 1, none⟩ = some (.int .i64 L[k].2) := by
  have hl := h.len
  rw [cp_length] at hl
  obtain ⟨b, off, e, hb, hc⟩ := h.at_ (by omega)
  have hx := cp_at L k hk
  rw [Nat.mul_comm 2 k] at hx
  exact ⟨b, off, e, hb, hc _ _ hx.1, hc _ _ hx.2⟩

end Go.Proofs.Ytjpklbkeofjppaa
