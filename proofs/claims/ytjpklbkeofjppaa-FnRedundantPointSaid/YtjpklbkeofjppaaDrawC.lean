/- Contracts: visibilities and antennas that are drawn from a code. -/
import Derived.Test.YtjpklbkeofjppaaDrawA
import Derived.Test.YtjpklbkeofjppaaVisC
namespace Go.Proofs.Ytjpklbkeofjppaa
open Go.RowKit

theorem infoInt : (Try.prog.info? 3).map (fun i => (i.zero, i.size, i.bytes)) = some (some (.int .i64 0), 1, 8) := by kernel_rfl
theorem infoVis : (Try.prog.info? 79).map (fun i => (i.zero, i.size, i.bytes)) = some (some (.agg #[.int .i64 0, .int .i64 0]), 2, 16) := by kernel_rfl

/-- A number that is drawn. -/
def NumPost (R B N : Nat) (P : Int → Prop) (w : World) (e : Ending) (w' : World) : Prop := ∃ x : Int, e = .returned (.int .i64 x) ∧ P x ∧ Rdr w' R B N ∧ w.grownBy w' (some R)
/-- A row of the call's own while a reader is asked. -/
structure DRow (w : World) (R B N : Nat) (T : TypeId) (size : Nat) (v : Value) (n : Nat) (xs : List Value) (wr : World) : Prop where
  own : wr.ownsRow w.heap.size T size v n xs
  rdr : Rdr wr R B N
  grown : w.grownBy wr (some R)
  lt : R < w.heap.size
section
variable {w wr w1 : World} {R B N N' : Nat} {T : TypeId} {size : Nat} {v : Value} {n : Nat} {xs : List Value}
theorem DRow.start (h : Rdr w R B N) (T : TypeId) (size : Nat) : DRow w R B N T size (.slice none 0 0) 0 [] w := ⟨World.ownsRow_nil _ _ _ _, h, World.grownBy.refl w _, h.lt⟩
theorem DRow.lit0 (h : Rdr w R B N) (T : TypeId) (size : Nat) : DRow w R B N T size (.slice (some ⟨w.heap.size, 0, none⟩) 0 0) 0 [] (w.alloc (.cells #[] T)) :=
  ⟨World.ownsRow_lit w _ 0 (Nat.le_refl _) (by decide) (by simp), h.after (bA (b0 w) _), gAlloc (World.grownBy.refl w _) _, h.lt⟩
theorem DRow.pick (h : DRow w R B N T size v n xs wr) (hr : Rdr w1 R B N') (hg : wr.grownBy w1 (some R)) : DRow w R B N' T size v n xs w1 := ⟨own_g h.own hg h.lt, hr, gTrans h.grown hg, h.lt⟩
theorem DRow.alloc (h : DRow w R B N T size v n xs wr) (o : Obj) : DRow w R B N T size v n xs (wr.alloc o) := ⟨h.own.alloc o, h.rdr.after (bA (b0 _) o), gAlloc h.grown o, h.lt⟩
theorem DRow.mono (h : DRow w R B N T size v n xs wr) (hN : N ≤ N') : DRow w R B N' T size v n xs wr := ⟨h.own, h.rdr.mono hN, h.grown, h.lt⟩
theorem DRow.app {v' : Value} {n' : Nat} {xs' : List Value} (h : DRow w R B N T size v n xs wr) (ho : w1.ownsRow w.heap.size T size v' n' xs') (hg : wr.grownBy w1 v.ownBlock) : DRow w R B N T size v' n' xs' w1 :=
  ⟨ho, h.rdr.fresh hg (fun k hk => Nat.lt_of_lt_of_le h.lt (h.own.lt k hk).1), gOwn h.grown h.own hg, h.lt⟩
theorem DRow.set {g c : Nat} (h : DRow w R B N T size (.slice (some ⟨g, 0, none⟩) n c) n xs wr) (j : Nat) (u : Value) : DRow w R B N T size (.slice (some ⟨g, 0, none⟩) n c) n (xs.set j u) (wr.setCell ⟨g, j, none⟩ u) :=
  let hs := h.own.stored j u
  h.app hs.1 hs.2
theorem DRow.drewN (h : DRow w R B N T size v n xs wr) (k : Nat) : DRow w R B N T size v n xs (wr.drewN k) :=
  ⟨own_after h.own (bD (b0 _) k), h.rdr.drewN k, gDrew h.grown k, h.lt⟩
theorem DRow.form (h : DRow w R B N T size v n xs wr) (hn : 0 < n) : ∃ g c, v = .slice (some ⟨g, 0, none⟩) n c := by
  obtain ⟨k, rfl⟩ : ∃ k, n = k + 1 := ⟨n - 1, by omega⟩
  rcases h.own.2 with ⟨_, h0⟩ | ⟨g, cap, cur, rfl, _⟩
  · omega
  · exact ⟨_, _, rfl⟩
end

/-- A list of pairs that is drawn: a row of the call's own. -/
def VisPost (R B N : Nat) (w : World) (e : Ending) (w' : World) : Prop := ∃ (v : Value) (L : List (Int × Int)), e = .returned v ∧ DRow w R B N 79 2 v L.length (cp L) w'
theorem cp_snoc (L : List (Int × Int)) (a b : Int) : cp (L ++ [(a, b)]) = cp L ++ [.int .i64 a, .int .i64 b] := by rw [cp_append]; rfl
theorem cp_set0 (L : List (Int × Int)) (a : Int) (h : 0 < L.length) : (cp L).set 0 (.int .i64 a) = cp (L.set 0 (a, (L.getD 0 (0, 0)).2)) := by
  cases L with
  | nil => simp at h
  | cons p l => simp [cp]
theorem cp_set1 (L : List (Int × Int)) (a : Int) (h : 0 < L.length) : (cp L).set 1 (.int .i64 a) = cp (L.set 0 ((L.getD 0 (0, 0)).1, a)) := by
  cases L with
  | nil => simp at h
  | cons p l => simp [cp]
def l91Rel (w : World) (R B N : Nat) (n : Nat) (v i : Value) (wr : World) : Prop := ∃ (k : Nat) (L : List (Int × Int)), k ≤ n ∧ L.length = k ∧ i = .int .i64 k ∧ DRow w R B (N + 5 * k) 79 2 v L.length (cp L) wr
theorem VisPost.of {R B N N' : Nat} {w wr : World} {v : Value} {L : List (Int × Int)} (h : DRow w R B N 79 2 v L.length (cp L) wr) (hN : N ≤ N') : VisPost R B N' w (.returned v) wr := ⟨v, L, rfl, h.mono hN⟩

theorem VisPost.amp {R B N N' : Nat} {w wr : World} {g c : Nat} {L : List (Int × Int)} (h : DRow w R B N 79 2 (.slice (some ⟨g, 0, none⟩) L.length c) L.length (cp L) wr) (hpos : 0 < L.length) (x : Int) (hN : N ≤ N') :
    VisPost R B N' w (.returned (.slice (some ⟨g, 0, none⟩) L.length c)) (wr.setCell ⟨g, 0, none⟩ (.int .i64 x)) := by
  have := (h.set 0 (.int .i64 x)).mono hN
  rw [cp_set0 L x hpos] at this
  exact ⟨_, L.set 0 (x, (L.getD 0 (0, 0)).2), rfl, by simpa using this⟩
theorem VisPost.phase {R B N N' : Nat} {w wr : World} {g c : Nat} {L : List (Int × Int)} (h : DRow w R B N 79 2 (.slice (some ⟨g, 0, none⟩) L.length c) L.length (cp L) wr) (hpos : 0 < L.length) (x : Int) (hN : N ≤ N') :
    VisPost R B N' w (.returned (.slice (some ⟨g, 0, none⟩) L.length c)) (wr.setCell ⟨g, 1, none⟩ (.int .i64 x)) := by
  have := (h.set 1 (.int .i64 x)).mono hN
  rw [cp_set1 L x hpos] at this
  exact ⟨_, L.set 0 ((L.getD 0 (0, 0)).1, x), rfl, by simpa using this⟩




end Go.Proofs.Ytjpklbkeofjppaa
