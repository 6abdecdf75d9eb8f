/- The program's visibilities of a base. -/
import Derived.Test.YtgipjfcmgmbcnaaBaseA
import Derived.Test.YtgipjfcmgmbcnaaBases
import Derived.Maps.AppendAt
import Derived.Laws.EntriesVeiled
namespace Go.Proofs.Ytgipjfcmgmbcnaa
open Go.RowKit Go.Shelf

attribute [local go_sem] Oper.semAt_some

theorem prefix_at {N : Nat} (h7 : N ≤ 7) {pre : List (Nat × Nat)} {x : Nat × Nat} (h : (pre ++ [x]) <+: Vm.basesL N) : pre.length = Vm.bt N x.1 x.2 ∧ x.1 < x.2 ∧ x.2 < N ∧ pre.length < N * (N - 1) / 2 ∧ pre = (Vm.basesL N).take pre.length := by
  obtain ⟨q, hq⟩ := h
  have hl := (Vm.bt_zero_all N (by omega)).2.1
  have hk : pre.length < N * (N - 1) / 2 := by
    rw [← hl, ← hq]; simp
  have hle := Vm.many_le N (by omega)
  obtain ⟨p, _, hp, h1, h2, h3⟩ := Vm.bt_inv_all N (by omega) pre.length (by omega) hk
  have e : (Vm.basesL N)[pre.length]? = some x := by rw [← hq]; simp
  rw [e] at hp
  obtain rfl : x = p := by simpa using hp
  exact ⟨h3.symm, h1, h2, hk, by rw [← hq]; simp⟩
theorem new_cells' (w : World) (B : Nat) (cs : Array Value) (t : TypeId) (hB : B = w.heap.size) : ∀ j u, cs.toList[j]? = some u → (w.alloc (.cells cs t)).cell? ((⟨B, 0, none⟩ : Addr).add j) = some u := by subst hB; exact new_cells w cs t
theorem own_head {w : World} {base size n : Nat} {e : TypeId} {v : Value} {xs : List Value} (h : w.ownsRow base e size v n xs) (hn : 0 < n) : ∃ g c, v = .slice (some ⟨g, 0, none⟩) n c := by
  rcases h.2 with ⟨_, h0⟩ | ⟨g, cap, cur, rfl, _⟩
  · have := h.1; rw [h0] at this
    rename_i hv
    subst hv
    cases hl : xs <;> simp_all
  · exact ⟨_, _, rfl⟩
set_option maxRecDepth 100000 in
set_option maxHeartbeats 2000000 in
theorem baseVis_any (A : Option Addr) (m c N : Nat) (B : List Int) (w : World) (h : Rd w w.heap.size 1 A m c (ci B)) (hO : Vm.OkB N B) :
    Calls Try.prog 51 #[.int .i64 N, .slice A m c] w fun e w' => ∃ v, e = .returned v ∧
      w'.ownsRow w.heap.size 38 2 v (Vm.bvL N B).length (cp (Vm.bvL N B)) ∧ Below w.heap.size w w' := by
  have HO := Lib.hid hO
  have N3 := hO.lo
  have N7 := hO.hi
  have hn := h.len
  rw [ci_length, Nat.mul_one] at hn
  have hm := h.most
  have hcap := h.cap
  subst hn
  have hB15 : B.length ≤ 15 := by rw [hO.len]; exact (Vm.cm_all N N3 N7).2.1
  clear hO
  refine callsIn_wide.1 (callsIn_of_wp_marks (n := 6) Try.func51 rfl trivial ?_ rfl)
  simp only [Try.ntmps51, List.size_toArray, List.length_cons, List.length_nil, Nat.reduceAdd, Nat.reduceSub, Array.replicate_succ, Array.replicate_zero, List.push_toArray, List.append_toArray, List.nil_append, List.cons_append]
  refine wpIn_wide.2 ?_
  go_wp2_with (go_at_call 55; refine (bases_any _ _).mono ?_; rintro e w' ⟨rfl, rfl⟩)
  obtain ⟨i0, hi, hz0, hz1, hz2⟩ := info_parts infoV
  obtain ⟨W0, hW0⟩ : ∃ W0, (((w.alloc (.cells #[.int .i64 N] 3)).alloc (.cells #[.slice A B.length c] 22)).alloc (.cells #[.slice none 0 0] 31)).alloc (.cells #[.int .i64 N] 3) = W0 := ⟨_, rfl⟩
  have hs0 : W0.heap.size = w.heap.size + 4 := by rw [← hW0]; simp
  have by0 : Boxed W0 w.heap.size 3 (.int .i64 N) := by rw [← hW0]; exact (((Boxed.new w _ _).alloc _).alloc _).alloc _
  have by1 : Boxed W0 (w.heap.size + 1) 22 (.slice A B.length c) := by rw [← hW0]; exact ((Boxed.new' (w.alloc _) _ (by simp) _ _).alloc _).alloc _
  have bxo : Boxed W0 (w.heap.size + 1 + 1) 31 (.slice none 0 0) := by rw [← hW0]; exact (Boxed.new' ((w.alloc _).alloc _) _ (by simp) _ _).alloc _
  have bxn : Boxed W0 (w.heap.size + 1 + 1 + 1) 3 (.int .i64 N) := by rw [← hW0]; exact Boxed.new' (((w.alloc _).alloc _).alloc _) _ (by simp) _ _
  have bB0 : Below w.heap.size w W0 := by rw [← hW0]; exact bA (bA (bA (bA (b0 w) _) _) _) _
  rw [hW0]
  have HW0 := Lib.hid hW0
  have HS0 := Lib.hid hs0
  clear hW0 hs0
  refine (wpIn_wide (n := 6)).1 ?_
  refine' range_law (n := 6) (gf := 85) (lb := #[.pointer (some ⟨w.heap.size + 1 + 1 + 1, 0, none⟩)]) (xs := Vm.basesL N) (encs := encB) (Kp := keepC (w.heap.size + 1 + 1 + 1)) rfl (enters_of Try.func85 (by kernel_rfl) rfl)
    (bases_seq 5 N (by omega) (by omega) (w.heap.size + 1 + 1 + 1) W0 (by rw [HS0.out]; omega) bxn.cell) (Below.refl _ _) keepC_t (keepC_b (by rw [HS0.out]; omega)) (fun _ => rfl)
    (fun pre W => rowI w (w.heap.size + 1 + 1) (fun p => Vm.bvF N B p.1 p.2) pre W ∧ Boxed W w.heap.size 3 (.int .i64 N) ∧ Boxed W (w.heap.size + 1) 22 (.slice A B.length c) ∧ Boxed W (w.heap.size + 1 + 1 + 1) 3 (.int .i64 N) ∧ Below w.heap.size w W)
    (fun _ _ _ => False)
    (OwnFrom.and (rowI_own _ _ _ _) (OwnFrom.and (ownFrom_box _ _ _ _) (OwnFrom.and (ownFrom_box _ _ _ _) (OwnFrom.and (ownFrom_box _ _ _ _) (ownFrom_below (Nat.le_refl _) bB0.size)))))
    (fun _ _ _ _ _ hs _ _ => hs)
    ⟨⟨_, bxo, World.ownsRow_nil _ _ _ _, trivial⟩, by0, by1, bxn, bB0⟩
    _ ?assign ?body ?done ?stop
  case assign =>
    intro l x W K hK
    simp only [encB]
    gi_wp2
    exact hK
  case body =>
    rintro l pre x W ⟨⟨v, hv, hrow, _⟩, c0, c1, cn, hB⟩ hpre
    have hc := hv.cell
    have hf := hv.frozen
    have hc0 := c0.cell
    have hc1 := c1.cell
    have hrd := (h.below hB).more hB.size
    obtain ⟨pl, x12, x2N, plen, pq⟩ := prefix_at N7 hpre
    clear pq
    have z0 : w.heap.size < W.heap.size := c0.lt
    have z1 : w.heap.size + 1 < W.heap.size := c1.lt
    have z2 : w.heap.size + 1 + 1 < W.heap.size := hv.lt
    obtain ⟨Av, cv, rfl⟩ := own_form hrow
    have hmax := Vm.many_le N (by omega)
    by_cases hx0 : 0 < x.1
    · obtain ⟨g1, g2, g3, g4⟩ := HO.out.get x12 x2N
      obtain ⟨g5, g6⟩ := g4 hx0
      have HF := Lib.hid (show Vm.bvF N B x.1 x.2 = (1, B.getD (Vm.bt N x.1 x.2 - (N - 1)) 0) by rw [Vm.bvF, g5])
      have g7 := (Vm.bt_base N x.1 x.2 N3 N7 hx0 x12 x2N).2.2
      rw [← pl] at HF g6 g7
      obtain ⟨b, off, rfl, hb, hcB⟩ := hrd.int_at g6
      have e1 : B.getD (pre.length - (N - 1)) 0 = B[pre.length - (N - 1)] := by simp [g6]
      rw [e1] at HF
      obtain ⟨y, hy⟩ : ∃ y, B[pre.length - (N - 1)] = y := ⟨_, rfl⟩
      rw [hy] at HF hcB
      clear hy e1 g1 g2 g3 g4 g5
      have PL := Lib.hid pl
      clear pl
      have hi1 : (0 : Int) ≤ (pre.length : Int) - ((N : Int) - 1) := by omega
      have hi2 : (pre.length : Int) - ((N : Int) - 1) < (B.length : Int) := by omega
      have hti : ((pre.length : Int) - ((N : Int) - 1)).toNat = pre.length - (N - 1) := by omega
      gi_wp2_with (gi_at_builtin; refine wpListIn_append_own _ rfl _ _ 31 rfl w.heap.size 38 i0 _ 2 16 Try.underlying31 hi hz0 hz1 hz2 rfl (by decide) _ _ _ rfl ((hrow.alloc _).alloc _) ⟨W.heap.size + 1, 0, none⟩ 1 1 [.int .i64 1, .int .i64 y] rfl rfl ?c1 ?c2 ?c3 ?c4 ?c5 ?_)
      case c1 => exact new_cells' _ _ _ _ (by simp)
      case c2 => intro u hu; simp at hu; rcases hu with rfl | rfl <;> rfl
      case c3 => unfold maxLen; omega
      case c4 => omega
      case c5 => simp; omega
      intro v' w3 hown' hgrow _
      obtain ⟨g, cap, rfl⟩ := own_head hown' (by omega)
      have hown3 : w3.ownsRow w.heap.size 38 2 (.slice (some ⟨g, 0, none⟩) (pre.length + 1) cap) (pre.length + 1) (cp (pre.map fun p => Vm.bvF N B p.1 p.2) ++ [.int .i64 (Vm.bvF N B x.1 x.2).1, .int .i64 (Vm.bvF N B x.1 x.2).2]) := by rw [HF.out]; exact hown'
      obtain ⟨r1, r2, r3, r4, r5⟩ := row_step (f := (fun p : Nat × Nat => Vm.bvF N B p.1 p.2)) (x := x) hv hrow hB (by omega) (bA (b0 W) _) hown3 hgrow
      have hc4 := r1.cell
      have hf4 := r1.frozen
      clear hown' hown3 hgrow
      gi_wp2_with fail
      exact ⟨r3.from _, (r5 _ _ _ cn (by decide) (by omega)).2.cell.trans cn.cell.symm, r2, (r5 _ _ _ c0 (by decide) (by omega)).2, (r5 _ _ _ c1 (by decide) (by omega)).2, (r5 _ _ _ cn (by decide) (by omega)).2, r4⟩
    · have PL := Lib.hid pl
      clear pl
      have x0 : x.1 = 0 := by omega
      have HF := Lib.hid (show Vm.bvF N B x.1 x.2 = (1, 0) by rw [Vm.bvF, x0]; simp [Vm.bget])
      clear x0
      gi_wp2_with (gi_at_builtin; refine wpListIn_append_own _ rfl _ _ 31 rfl w.heap.size 38 i0 _ 2 16 Try.underlying31 hi hz0 hz1 hz2 rfl (by decide) _ _ _ rfl ((hrow.alloc _).alloc _) ⟨W.heap.size + 1, 0, none⟩ 1 1 [.int .i64 1, .int .i64 0] rfl rfl ?c1 ?c2 ?c3 ?c4 ?c5 ?_)
      case c1 => exact new_cells' _ _ _ _ (by simp)
      case c2 => intro u hu; simp at hu; rcases hu with rfl | rfl <;> rfl
      case c3 => unfold maxLen; omega
      case c4 => omega
      case c5 => simp; omega
      intro v' w3 hown' hgrow _
      obtain ⟨g, cap, rfl⟩ := own_head hown' (by omega)
      have hown3 : w3.ownsRow w.heap.size 38 2 (.slice (some ⟨g, 0, none⟩) (pre.length + 1) cap) (pre.length + 1) (cp (pre.map fun p => Vm.bvF N B p.1 p.2) ++ [.int .i64 (Vm.bvF N B x.1 x.2).1, .int .i64 (Vm.bvF N B x.1 x.2).2]) := by rw [HF.out]; exact hown'
      obtain ⟨r1, r2, r3, r4, r5⟩ := row_step (f := (fun p : Nat × Nat => Vm.bvF N B p.1 p.2)) (x := x) hv hrow hB (by omega) (bA (b0 W) _) hown3 hgrow
      have hc4 := r1.cell
      have hf4 := r1.frozen
      clear hown' hown3 hgrow
      gi_wp2_with fail
      exact ⟨r3.from _, (r5 _ _ _ cn (by decide) (by omega)).2.cell.trans cn.cell.symm, r2, (r5 _ _ _ c0 (by decide) (by omega)).2, (r5 _ _ _ c1 (by decide) (by omega)).2, (r5 _ _ _ cn (by decide) (by omega)).2, r4⟩
  case done =>
    rintro D W hD ⟨⟨v, hv, hrow, _⟩, c0, c1, cn, hB⟩ hK
    have hc := hv.cell
    go_wp2_with fail
    refine ⟨by simp, .inl ⟨_, _, rfl, run_takeDeferred hK, ?_⟩⟩
    refine ⟨v, by simp [results, Try.results51, go_sem], v, rfl, ?_, ?_⟩
    · rw [Vm.bvL, Vm.mk, List.length_map]
      exact ownsRow_putObj hrow _ hK rfl
    · exact hB.trans (belowK_b (w := w) (Nat.le_refl _) W D _ _ (Nat.le_trans bB0.size hD) hK rfl rfl)
  case stop =>
    rintro D c pre W _ _ h _
    exact h.elim

end Go.Proofs.Ytgipjfcmgmbcnaa
