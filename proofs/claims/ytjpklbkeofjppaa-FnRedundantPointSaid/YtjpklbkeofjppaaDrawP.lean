/- Contracts: arrays and directions that are drawn from a code. Written by drawpgen.py. -/
import Derived.Test.YtjpklbkeofjppaaPointS
import Derived.Test.YtjpklbkeofjppaaDrawE
namespace Go.Proofs.Ytjpklbkeofjppaa
open Go.RowKit

theorem infoAnt : (Try.prog.info? 38).map (fun i => (i.zero, i.size, i.bytes)) = some (some (.agg #[.int .i64 0, .int .i64 0]), 2, 16) := by kernel_rfl
theorem DRow.afterP {w wr w' : World} {R B N : Nat} {T : TypeId} {size : Nat} {v : Value} {n : Nat} {xs : List Value} (h : DRow w R B N T size v n xs wr) (hb : Below wr.heap.size wr w') : DRow w R B N T size v n xs w' :=
  ⟨own_after h.own hb, h.rdr.after hb, gTrans h.grown (gBelow hb _), h.lt⟩
theorem DRow.setP {w wr : World} {R B N : Nat} {T : TypeId} {g c : Nat} {L : List (Int × Int)} (h : DRow w R B N T 2 (.slice (some ⟨g, 0, none⟩) L.length c) L.length (cp L) wr) (j : Nat) (x : Int) : ∃ L', L'.length = L.length ∧ DRow w R B N T 2 (.slice (some ⟨g, 0, none⟩) L.length c) L.length (cp L') (wr.setCell ⟨g, j, none⟩ (.int .i64 x)) := by
  obtain ⟨L', e, hl⟩ := as_pairs L.length ((cp L).set j (.int .i64 x)) (by simp [cp_length]) (ints_set (cp_ints L) j x)
  have := h.set j (.int .i64 x)
  rw [e] at this
  exact ⟨L', hl, this⟩
theorem DRow.cellP {w wr : World} {R B N : Nat} {T : TypeId} {g c : Nat} {L : List (Int × Int)} (h : DRow w R B N T 2 (.slice (some ⟨g, 0, none⟩) L.length c) L.length (cp L) wr) (k : Nat) (hk : k < L.length) :
    wr.cell? ⟨g, k * 2, none⟩ = some (.int .i64 L[k].1) ∧ wr.cell? ⟨g, k * 2 + 1, none⟩ = some (.int .i64 L[k].2) ∧ wr.frozen? ⟨g, k * 2, none⟩ = false ∧ wr.frozen? ⟨g, k * 2 + 1, none⟩ = false := by
  have hx := cp_at L k hk
  rw [Nat.mul_comm 2 k] at hx
  exact ⟨(h.own.cellAt (k * 2) (by omega)).trans hx.1, (h.own.cellAt (k * 2 + 1) (by omega)).trans hx.2, h.own.frozenAt _, h.own.frozenAt _⟩
set_option maxHeartbeats 2000000 in
theorem l91Has_any (A : Option Addr) (n c : Nat) (L : List (Int × Int)) (p : Int × Int) (w : World) (h : Rd w w.heap.size 2 A n c (cp L)) :
    Calls Try.prog 68 #[.slice A n c, gv p] w fun e w' => ∃ b, e = .returned (.bool b) ∧ Below w.heap.size w w' := by
  have hn := h.len
  rw [cp_length] at hn
  have hm := h.most
  have hcap := h.cap
  obtain rfl : L.length = n := by omega
  clear hn
  have heq := run_eql_Ant
  obtain ⟨pa, pb⟩ := p
  unfold gv
  go_enter Try.func68, Try.ntmps68
  go_wp2
  go_loopw [5] (fun i wr => ∃ k : Nat, k ≤ L.length ∧ i = .int .i64 k ∧ Below w.heap.size w wr ∧ wr.cell? ⟨w.heap.size, 0, none⟩ = some (.int .i64 pa) ∧ wr.cell? ⟨w.heap.size, 1, none⟩ = some (.int .i64 pb)) (fun i _ => L.length - (intOf i).toNat)
  case atStart => exact ⟨0, Nat.zero_le _, rfl, bA (b0 w) _, by simp [go_sem], by simp [go_sem]⟩
  case round =>
    obtain ⟨k, hk, rfl, hB, q1, q2⟩ := hrel
    by_cases hlt : k < L.length
    · obtain ⟨b, off, rfl, hb, hc1, hc2⟩ := (h.below hB).pair_at hlt
      have hi0 : (0 : Int) ≤ (k : Int) := by omega
      have hi1 : (k : Int) < (L.length : Int) := by omega
      obtain ⟨b, hbb⟩ : ∃ b, peq L[k].1 L[k].2 pa pb = b := ⟨_, rfl⟩
      cases b
      · go_wp2
        go_quiet (fail)
        go_wp2
        go_roundw
        case rel => exact ⟨k + 1, by omega, by go_num, bD hB _, q1, q2⟩
        case measure => simp [intOf]; omega
      · go_wp2
        go_quiet (fail)
        go_wp2
        go_ret
        exact ⟨true, rfl, bD hB _⟩
    · go_wp2
      go_ret
      exact ⟨false, rfl, hB⟩
def DirPost (R B N : Nat) (w : World) (e : Ending) (w' : World) : Prop := ∃ p : Int × Int, e = .returned (gv p) ∧ Rdr w' R B N ∧ w.grownBy w' (some R)
set_option maxRecDepth 100000 in
set_option maxHeartbeats 2000000 in
theorem l91Direction_any (R B N : Nat) (w : World) (h : Rdr w R B N) (hN : N ≤ 1000000) : Calls Try.prog 54 #[.pointer (some ⟨R, 0, none⟩)] w (DirPost R B (N + 3) w) := by
  have hR := h.lt
  go_enter Try.func54, Try.ntmps54
  go_wp2_with fail
  refine (pick_any R B N 200 _ (h.after (bA (b0 w) _)) (by omega) (by omega) (by omega)).mono ?_
  rintro e w1 ⟨x, rfl, x1, x2, hr1, hg1⟩
  go_wp2_with fail
  refine (pick_any R B (N + 1) 200 _ hr1 (by omega) (by omega) (by omega)).mono ?_
  rintro e w2 ⟨y, rfl, y1, y2, hr2, hg2⟩
  have hgA := gTrans (gTrans (gAlloc (World.grownBy.refl w (some R)) (.cells #[.int .i64 0, .int .i64 0] 38)) hg1) hg2
  have hsz1 := hg1.size
  have hsz2 := hg2.size
  simp at hsz1
  have l0 : w2.cell? ⟨w.heap.size, 0, none⟩ = some (.int .i64 0) := hg2.cell (hg1.cell (by simp [go_sem]) (fun e => by injection e with e; simp at e; omega)) (fun e => by injection e with e; simp at e; omega)
  have l1 : w2.cell? ⟨w.heap.size, 1, none⟩ = some (.int .i64 0) := hg2.cell (hg1.cell (by simp [go_sem]) (fun e => by injection e with e; simp at e; omega)) (fun e => by injection e with e; simp at e; omega)
  have hx0 : Bx (w.alloc (.cells #[.int .i64 0, .int .i64 0] 38)) w.heap.size #[.int .i64 0, .int .i64 0] 38 := Bx.new w _ _ _ rfl
  have hx1 : Bx w1 w.heap.size #[.int .i64 0, .int .i64 0] 38 := (hg1.block _ hx0.lt (fun e => by injection e; omega)).trans hx0
  have hx2 : Bx w2 w.heap.size #[.int .i64 0, .int .i64 0] 38 := (hg2.block _ hx1.lt (fun e => by injection e; omega)).trans hx1
  clear hg1 hg2 hr1 hx0 hx1
  have hr2' := hr2.after (bA (b0 w2) (.cells #[.int .i64 (x - 100), .int .i64 (y - 100)] 38))
  go_wp2_with fail
  refine (pick_any R B (N + 1 + 1) 40 _ hr2' (by omega) (by omega) (by omega)).mono ?_
  rintro e w3 ⟨z, rfl, z1, z2, hr3, hg3⟩
  have hn0 : Bx (w2.alloc (.cells #[.int .i64 (x - 100), .int .i64 (y - 100)] 38)) w2.heap.size #[.int .i64 (x - 100), .int .i64 (y - 100)] 38 := Bx.new w2 _ _ _ rfl
  have hn3 : Bx w3 w2.heap.size #[.int .i64 (x - 100), .int .i64 (y - 100)] 38 := (hg3.block _ hn0.lt (fun e => by injection e; omega)).trans hn0
  have hx3 : Bx w3 w.heap.size #[.int .i64 0, .int .i64 0] 38 := (hg3.block _ (by have := hx2.lt; simp; omega) (fun e => by injection e; omega)).trans (hx2.after (bA (b0 _) _))
  have hgB := gTrans (gAlloc hgA (.cells #[.int .i64 (x - 100), .int .i64 (y - 100)] 38)) hg3
  have c0 := hn3.cell 0
  have c1 := hn3.cell 1
  have f0 := hn3.frozen 1
  have d0 := hx3.cell 0
  have d1 := hx3.cell 1
  have e0 := hx3.frozen 0
  have e1 := hx3.frozen 1
  simp only [List.getElem?_toArray, List.getElem?_cons_zero, List.getElem?_cons_succ] at c0 c1 d0 d1
  have ne1 : ¬ w.heap.size = w2.heap.size := by omega
  have ne2 : ¬ w2.heap.size = w.heap.size := by omega
  have hltx := hx3.lt
  have hltn := hn3.lt
  clear hgA hg3 hn0 l0 l1 hx2 hr2 hr2'
  have hfin : ∀ (W : World) (a b : Int), Bx W w.heap.size #[.int .i64 0, .int .i64 0] 38 → ((W.setCell ⟨w.heap.size, 0, none⟩ (.int .i64 a)).setCell ⟨w.heap.size, 1, none⟩ (.int .i64 b)).cell? ⟨w.heap.size, 0, none⟩ = some (.int .i64 a) ∧ ((W.setCell ⟨w.heap.size, 0, none⟩ (.int .i64 a)).setCell ⟨w.heap.size, 1, none⟩ (.int .i64 b)).cell? ⟨w.heap.size, 1, none⟩ = some (.int .i64 b) := fun W a b hb => by
    have h0 := hb.cell 0
    have h1 := hb.cell 1
    simp only [List.getElem?_toArray, List.getElem?_cons_zero, List.getElem?_cons_succ] at h0 h1
    obtain ⟨_, s1, s2⟩ := st2 h0 h1 (.int .i64 a) (.int .i64 b)
    exact ⟨s2, s1⟩
  have HF := Lib.hid hfin
  clear hfin
  by_cases hz : z = 0
  · have ez : (z == 0) = true := by simp [hz]
    clear hz
    have hx4 : Bx (w3.setCell ⟨w2.heap.size, 1, none⟩ (.int .i64 1001)) w.heap.size #[.int .i64 0, .int .i64 0] 38 := (heap_setCell_other _ _ _ _ ne1).trans hx3
    obtain ⟨s1, s2⟩ := HF.out _ (x - 100) 1001 hx4
    have hP : Hid (DirPost R B (N + 3) w (.returned (gv (x - 100, 1001))) (((w3.setCell ⟨w2.heap.size, 1, none⟩ (.int .i64 1001)).setCell ⟨w.heap.size, 0, none⟩ (.int .i64 (x - 100))).setCell ⟨w.heap.size, 1, none⟩ (.int .i64 1001))) :=
      ⟨_, rfl, ((hr3.keep (fun i hi => (heap_setCell_other _ _ _ _ (by show i ≠ w2.heap.size; omega)))).keep (fun i hi => (heap_setCell_other _ _ _ _ (by show i ≠ w.heap.size; omega)))).keep (fun i hi => (heap_setCell_other _ _ _ _ (by show i ≠ w.heap.size; omega))),
        gSet (gSet (gSet hgB (p := ⟨w2.heap.size, 1, none⟩) (by show _ ≤ w2.heap.size; omega) _) (p := ⟨w.heap.size, 0, none⟩) (Nat.le_refl _) _) (p := ⟨w.heap.size, 1, none⟩) (Nat.le_refl _) _⟩
    clear hgB hr3 hx4 hx3 hn3
    go_wp2_with fail
    exact bodyPost_ret (v := .agg #[.int .i64 (x - 100), .int .i64 1001]) (by simp [results, Try.results54, go_sem, s1, s2]) rfl hP.out
  · have ez : (z == 0) = false := by simp [hz]
    clear hz
    obtain ⟨s1, s2⟩ := HF.out _ (x - 100) (y - 100) hx3
    have hP : Hid (DirPost R B (N + 3) w (.returned (gv (x - 100, y - 100))) ((w3.setCell ⟨w.heap.size, 0, none⟩ (.int .i64 (x - 100))).setCell ⟨w.heap.size, 1, none⟩ (.int .i64 (y - 100)))) :=
      ⟨_, rfl, (hr3.keep (fun i hi => (heap_setCell_other _ _ _ _ (by show i ≠ w.heap.size; omega)))).keep (fun i hi => (heap_setCell_other _ _ _ _ (by show i ≠ w.heap.size; omega))),
        gSet (gSet hgB (p := ⟨w.heap.size, 0, none⟩) (Nat.le_refl _) _) (p := ⟨w.heap.size, 1, none⟩) (Nat.le_refl _) _⟩
    clear hgB hr3 hx3 hn3
    go_wp2_with fail
    exact bodyPost_ret (v := .agg #[.int .i64 (x - 100), .int .i64 (y - 100)]) (by simp [results, Try.results54, go_sem, s1, s2]) rfl hP.out

end Go.Proofs.Ytjpklbkeofjppaa
