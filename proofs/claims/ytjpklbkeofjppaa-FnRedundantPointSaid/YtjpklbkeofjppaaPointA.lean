/- The program's VisPoint. Written by pointgen.py. -/
import Derived.Test.YtjpklbkeofjppaaDelay
import Derived.Test.YtjpklbkeofjppaaBaseV
import Derived.Test.YtjpklbkeofjppaaDrawC
import Derived.Maps.AppendAt
import Derived.Laws.EntriesVeiled
namespace Go.Proofs.Ytjpklbkeofjppaa
open Go.RowKit Go.Shelf

attribute [local go_sem] Oper.semAt_some

def Bx (W : World) (B : Nat) (cs : Array Value) (t : TypeId) : Prop := W.heap[B]? = some (.cells cs t (0, 0))
section
variable {W W' : World} {B : Nat} {cs : Array Value} {t : TypeId}
theorem Bx.lt (h : Bx W B cs t) : B < W.heap.size := lt_of_block h
theorem Bx.cell (h : Bx W B cs t) (j : Nat) : W.cell? ⟨B, j, none⟩ = cs[j]? := cell_of_row W B j cs t _ h
theorem Bx.frozen (h : Bx W B cs t) (j : Nat) : W.frozen? ⟨B, j, none⟩ = false := frozen_of_row W B j cs t h
theorem Bx.after (h : Bx W B cs t) (hb : Below W.heap.size W W') : Bx W' B cs t := (hb.block B h.lt).trans h
theorem Bx.new (W : World) (cs : Array Value) (t : TypeId) (n : Nat) (hn : W.heap.size = n) : Bx (W.alloc (.cells cs t)) n cs t := by subst hn; exact heap_alloc_new W _
theorem Bx.not_row (h : Bx W B cs t) {e : TypeId} (hte : t ≠ e) {base size k : Nat} {v : Value} {xs : List Value} (hr : W.ownsRow base e size v k xs) : some B ≠ v.ownBlock := by
  rcases hr.2 with ⟨rfl, _⟩ | ⟨g, cap, cur, rfl, _, hgb, _⟩
  · simp [Value.ownBlock]
  · intro e'
    obtain rfl : B = g := by simpa [Value.ownBlock] using e'
    have := (show W.heap[B]? = _ from h).symm.trans hgb
    simp at this
    exact hte this.2
theorem ownFrom_bx {β : Type} (B' B : Nat) (cs : Array Value) (t : TypeId) : OwnFrom B' (fun (_ : β) W => Bx W B cs t) := fun _ X _ row hs hg hr =>
  (hg.block B (Bx.lt hs) (fun e => by obtain ⟨_, o, ho, hc⟩ := hr B e.symm; rw [show X.heap[B]? = _ from hs] at ho; cases ho; cases hc)).trans hs
theorem bx_step {w W w2 w3 : World} {Bo n B : Nat} {v x : Value} {xs : List Value} {tmp : Obj} {cs : Array Value} {t : TypeId} (h : Bx W B cs t) (hte : t ≠ 79) (hne : B ≠ Bo) (hrow : W.ownsRow w.heap.size 79 2 v n xs)
    (hb2 : Below W.heap.size W w2) (hg3 : (w2.alloc tmp).grownBy w3 v.ownBlock) : Bx w3 B cs t ∧ Bx (w3.setCell ⟨Bo, 0, none⟩ x) B cs t := by
  have h2 : Bx (w2.alloc tmp) B cs t := (h.after hb2).after (bA (b0 _) _)
  have h3 : Bx w3 B cs t := (hg3.block B h2.lt (h2.not_row hte ((own_after hrow hb2).alloc _))).trans h2
  exact ⟨h3, (heap_setCell_other _ _ _ _ hne).trans h3⟩
end
/-- The three captured variables. -/
def PB (A : Option Addr) (n c : Nat) (d : Int × Int) (amp : Int) (B : Nat) (W : World) : Prop := Bx W B #[.slice A n c] 25 ∧ Bx W (B + 1) #[.int .i64 d.1, .int .i64 d.2] 38 ∧ Bx W (B + 2) #[.int .i64 amp] 3
theorem PB.after {A : Option Addr} {n c : Nat} {d : Int × Int} {amp : Int} {B : Nat} {W W' : World} (h : PB A n c d amp B W) (hb : Below W.heap.size W W') : PB A n c d amp B W' := ⟨h.1.after hb, h.2.1.after hb, h.2.2.after hb⟩
theorem PB.cells {A : Option Addr} {n c : Nat} {d : Int × Int} {amp : Int} {B : Nat} {W : World} (h : PB A n c d amp B W) : W.cell? ⟨B, 0, none⟩ = some (.slice A n c) ∧ W.cell? ⟨B + 1, 0, none⟩ = some (.int .i64 d.1) ∧ W.cell? ⟨B + 1, 1, none⟩ = some (.int .i64 d.2) ∧ W.cell? ⟨B + 2, 0, none⟩ = some (.int .i64 amp) ∧ B + 2 < W.heap.size :=
  ⟨(h.1.cell 0).trans rfl, (h.2.1.cell 0).trans rfl, (h.2.1.cell 1).trans rfl, (h.2.2.cell 0).trans rfl, h.2.2.lt⟩
theorem PB.new (A : Option Addr) (n c : Nat) (da db amp : Int) (w : World) : PB A n c (da, db) amp w.heap.size (((w.alloc (.cells #[.slice A n c] 25)).alloc (.cells #[.int .i64 da, .int .i64 db] 38)).alloc (.cells #[.int .i64 amp] 3)) :=
  ⟨((Bx.new w _ _ _ rfl).after (bA (b0 _) _)).after (bA (b0 _) _), (Bx.new (w.alloc _) _ _ _ (by simp)).after (bA (b0 _) _), Bx.new ((w.alloc _).alloc _) _ _ _ (by simp)⟩
def PtPost (L : List (Int × Int)) (d : Int × Int) (amp : Int) (w : World) (e : Ending) (w' : World) : Prop := ∃ v, e = .returned (.tuple #[v, .bool (Vm.ptB L d amp)]) ∧ w'.ownsRow w.heap.size 79 2 v (Vm.ptL L d amp).length (cp (Vm.ptL L d amp)) ∧ Below w.heap.size w w'
set_option maxRecDepth 100000 in
set_option maxHeartbeats 8000000 in
theorem VisPoint_ok (A : Option Addr) (n c : Nat) (L : List (Int × Int)) (d : Int × Int) (amp : Int) (w : World) (h : Rd w w.heap.size 2 A n c (cp L)) (hok : Vm.ptB L d amp = true) :
    Calls Try.prog 32 #[.slice A n c, gv d, .int .i64 amp] w (PtPost L d amp w) := by
  have hn := h.len
  rw [cp_length] at hn
  have hm := h.most
  have hcap := h.cap
  obtain rfl : L.length = n := by omega
  clear hn
  obtain ⟨ha, hd, am1, am2⟩ := (Vm.ptB_iff _ _ _).1 hok
  have hO := Vm.OkP.of hok
  have h2 := hO.lo
  have h7 := hO.hi
  have HA := Lib.hid ha
  have HD := Lib.hid hd
  have HO := Lib.hid hO
  have HOK := Lib.hid hok
  clear ha hd hO hok
  obtain ⟨da, db⟩ := d
  unfold gv
  refine callsIn_wide.1 (callsIn_of_wp_marks (n := 6) Try.func32 rfl trivial ?_ rfl)
  simp only [Try.ntmps32, List.size_toArray, List.length_cons, List.length_nil, Nat.reduceAdd, Nat.reduceSub, Array.replicate_succ, Array.replicate_zero, List.push_toArray, List.append_toArray, List.nil_append, List.cons_append]
  refine wpIn_wide.2 ?_
  have hpb0 := PB.new A L.length c da db amp w
  go_wp2_with fail
  refine (ArrayValid_any _ _ _ L _ (h.after (bA (bA (bA (b0 w) _) _) _))).mono ?_
  rintro e w1 ⟨rfl, hB1⟩
  rw [HA.out]
  have hpb1 := hpb0.after hB1
  have hBB1 := bT (bA (bA (bA (b0 w) (.cells #[.slice A L.length c] 25)) (.cells #[.int .i64 da, .int .i64 db] 38)) (.cells #[.int .i64 amp] 3)) hB1
  clear hpb0 hB1
  obtain ⟨k0, k1, k2, k3, k4⟩ := hpb1.cells
  go_wp2_with fail
  refine (isPlace_any (da, db) _).mono ?_
  rintro e w2 ⟨rfl, hB2⟩
  rw [HD.out]
  have hpb2 := hpb1.after hB2
  have hBB2 := bT hBB1 hB2
  clear hpb1 hBB1 hB2 k0 k1 k2 k3 k4
  obtain ⟨k0, k1, k2, k3, k4⟩ := hpb2.cells
  have z0 : w.heap.size < w2.heap.size := by omega
  have z1 : w.heap.size + 1 < w2.heap.size := by omega
  go_wp2_with (go_at_call 43; refine (bases_any _ _).mono ?_; rintro e w' ⟨rfl, rfl⟩)
  obtain ⟨i0, hi, hz0, hz1, hz2⟩ := info_parts infoV
  obtain ⟨W0, hW0⟩ : ∃ W0, (w2.alloc (.cells #[.slice none 0 0] 50)).alloc (.cells #[.int .i64 L.length] 3) = W0 := ⟨_, rfl⟩
  have hs0 : W0.heap.size = w2.heap.size + 2 := by rw [← hW0]; simp
  have bxo : Boxed W0 w2.heap.size 50 (.slice none 0 0) := by rw [← hW0]; exact (Boxed.new w2 _ _).alloc _
  have bxn : Boxed W0 (w2.heap.size + 1) 3 (.int .i64 L.length) := by rw [← hW0]; exact Boxed.new' (w2.alloc _) _ (by simp) _ _
  have bB0 : Below w.heap.size w W0 := by rw [← hW0]; exact bA (bA hBB2 _) _
  have bpb : PB A L.length c (da, db) amp w.heap.size W0 := by rw [← hW0]; exact (hpb2.after (bA (b0 _) _)).after (bA (b0 _) _)
  rw [hW0]
  have HS0 := Lib.hid hs0
  have K4 := Lib.hid k4
  clear hW0 hs0 hpb2 hBB2 k0 k1 k2 k3 z0 z1
  refine (wpIn_wide (n := 6)).1 ?_
  refine' range_law (n := 6) (gf := 66) (lb := #[.pointer (some ⟨w2.heap.size + 1, 0, none⟩)]) (xs := Vm.basesL L.length) (encs := encB) (Kp := keepC (w2.heap.size + 1)) rfl (enters_of Try.func66 (by kernel_rfl) rfl)
    (bases_seq 5 L.length h2 h7 (w2.heap.size + 1) W0 (by rw [HS0.out]; omega) bxn.cell) (Below.refl _ _) keepC_t (keepC_b (by rw [HS0.out]; omega)) (fun _ => rfl)
    (fun pre W => rowI w w2.heap.size (fun p => Vm.ptF L (da, db) amp p.1 p.2) pre W ∧ (Bx W w.heap.size #[.slice A L.length c] 25 ∧ Bx W (w.heap.size + 1) #[.int .i64 da, .int .i64 db] 38 ∧ Bx W (w.heap.size + 2) #[.int .i64 amp] 3) ∧ Boxed W (w2.heap.size + 1) 3 (.int .i64 L.length) ∧ Below w.heap.size w W)
    (fun _ _ _ => False)
    (OwnFrom.and (rowI_own _ _ _ _) (OwnFrom.and (OwnFrom.and (ownFrom_bx _ _ _ _) (OwnFrom.and (ownFrom_bx _ _ _ _) (ownFrom_bx _ _ _ _))) (OwnFrom.and (ownFrom_box _ _ _ _) (ownFrom_below (Nat.le_refl _) bB0.size))))
    (fun _ _ _ _ _ hs _ _ => hs)
    ⟨⟨_, bxo, World.ownsRow_nil _ _ _ _, trivial⟩, bpb, bxn, bB0⟩
    _ ?assign ?body ?done ?stop
  case assign =>
    intro l x W K hK
    simp only [encB]
    gi_wp2
    exact hK
  case body =>
    rintro l pre x W ⟨⟨v, hv, hrow, tr⟩, hpb, cn, hB⟩ hpre
    clear tr
    have hrd := (h.below hB).more hB.size
    obtain ⟨pl, x12, x2N, plen, pq⟩ := prefix_at h7 hpre
    clear pq
    have hmax := Vm.many_le L.length (by omega)
    obtain ⟨k0, k1, k2, k3, k4'⟩ := PB.cells (d := (da, db)) hpb
    have zo := hv.lt
    have zn := cn.lt
    have hc := hv.cell
    obtain ⟨Av, cv, rfl⟩ := own_form hrow
    have PL := Lib.hid pl
    clear pl
    have HPT := Lib.hid (show Vm.ptF L (da, db) amp x.1 x.2 = (amp, (Vm.delay L (da, db) x.2 - Vm.delay L (da, db) x.1) % 360) from rfl)
    gi_wp2_with fail
    refine ⟨trivial, (CallsIn.inRound l (callsIn_wide.2 (DelayPhase_ok A L.length c L (da, db) x.1 x.2 _ hrd HA.out HD.out (by omega) (by omega)))).mono ?_⟩
    rintro e w4 ⟨rfl, hb4⟩
    obtain ⟨z, hz⟩ : ∃ z, (Vm.delay L (da, db) x.2 - Vm.delay L (da, db) x.1) % 360 = z := ⟨_, rfl⟩
    rw [hz] at HPT ⊢
    clear hz k0 k1 k2 k3 k4' hc
    have hc4 := (boxed_of_below hv hb4).cell
    obtain ⟨k0, k1, k2, k3, k4'⟩ := PB.cells (d := (da, db)) (PB.after (d := (da, db)) hpb hb4)
    have hr4 := (own_after hrow hb4).alloc (.cells #[.int .i64 amp, .int .i64 z] 79)
    have hsz4 := hb4.size
    have bo : w.heap.size ≤ w2.heap.size := by omega
    have hBs := hB.size
    have zo4 : w2.heap.size < w4.heap.size := by omega
    have zp4 : w.heap.size + 1 + 1 < w4.heap.size := by omega
    have hpl21 : pre.length ≤ 21 := by omega
    gi_wp2_with (gi_at_builtin; refine wpListIn_append_own _ rfl _ _ 50 rfl w.heap.size 79 i0 _ 2 16 Try.underlying50 hi hz0 hz1 hz2 rfl (by decide) _ _ _ rfl hr4 ⟨w4.heap.size, 0, none⟩ 1 1 [.int .i64 amp, .int .i64 z] rfl rfl (new_cells _ _ _) ?c2 ?c3 ?c4 ?c5 ?_)
    case c2 => intro u hu; simp at hu; rcases hu with rfl | rfl <;> rfl
    case c3 => unfold maxLen; omega
    case c4 => omega
    case c5 => simp; omega
    intro v' w5 hown5 hgrow5 _
    obtain ⟨g5, c5, rfl⟩ := own_head hown5 (by omega)
    obtain ⟨r1, r2, r3, r4, r5⟩ := row_step (f := fun p => Vm.ptF L (da, db) amp p.1 p.2) (x := x) hv hrow hB bo hb4 (by rw [HPT.out]; exact hown5) hgrow5
    have hc5 := r1.cell
    have hf5 := r1.frozen
    have q1 := (bx_step (x := .slice (some ⟨g5, 0, none⟩) (pre.length + 1) c5) hpb.1 (by decide) (show w.heap.size ≠ w2.heap.size by omega) hrow hb4 hgrow5).2
    have q2 := (bx_step (x := .slice (some ⟨g5, 0, none⟩) (pre.length + 1) c5) hpb.2.1 (by decide) (show w.heap.size + 1 ≠ w2.heap.size by omega) hrow hb4 hgrow5).2
    have q3 := (bx_step (x := .slice (some ⟨g5, 0, none⟩) (pre.length + 1) c5) hpb.2.2 (by decide) (show w.heap.size + 2 ≠ w2.heap.size by omega) hrow hb4 hgrow5).2
    have q4 := (r5 _ _ _ cn (by decide) (by omega)).2
    have hown6 := hown5
    clear k0 k1 k2 k3 k4' hr4 hgrow5 hown5 hc4
    gi_wp2_with fail
    exact ⟨r3.from _, q4.cell.trans cn.cell.symm, r2, ⟨q1, q2, q3⟩, q4, r4⟩
  case done =>
    intro D W hD hI hK
    obtain ⟨⟨v, hv, hrow, _⟩, _, _, hB⟩ := hI
    have g1 := hv.cell
    have hlen : (Vm.ptL L (da, db) amp).length = (Vm.basesL L.length).length := by rw [Vm.ptL_yes HOK.out, Vm.mk, List.length_map]
    have hrow2 : W.ownsRow w.heap.size 79 2 v (Vm.ptL L (da, db) amp).length (cp (Vm.ptL L (da, db) amp)) := by rw [hlen]; rw [Vm.ptL_yes HOK.out]; exact hrow
    obtain ⟨Av, cv, rfl⟩ := own_form hrow2
    clear hlen hrow
    have hc2 : W.cell? ⟨w2.heap.size, 0, none⟩ = some (.slice Av (Vm.ptL L (da, db) amp).length cv) := g1
    obtain ⟨X, hX⟩ : ∃ X, Vm.ptL L (da, db) amp = X := ⟨_, rfl⟩
    have HX := Lib.hid hX
    rw [hX] at hrow2 hc2
    clear hX g1
    go_wp2_with fail
    refine ⟨by simp, .inl ⟨_, _, rfl, run_takeDeferred hK, ?_⟩⟩
    refine ⟨.tuple #[.slice Av X.length cv, .bool true], by simp [results, Try.results32, go_sem], _, by rw [HOK.out], ?_, ?_⟩
    · rw [HX.out]; exact ownsRow_putObj hrow2 _ hK rfl
    · exact hB.trans (belowK_b (w := w) (Nat.le_refl _) W D _ _ (Nat.le_trans bB0.size hD) hK rfl rfl)
  case stop =>
    intro D cc pre W hD hpre hI hK
    exact hI.elim

end Go.Proofs.Ytjpklbkeofjppaa
