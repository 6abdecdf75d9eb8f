/- The iterator over all baselines. -/
import Derived.Test.YtjpklbkeofjppaaRound
import Derived.Test.YtjpklbkeofjppaaVisA
namespace Go.Proofs.Ytjpklbkeofjppaa
open Go.RowKit Go.Shelf

attribute [local go_sem] Oper.semAt_some

theorem infoV : (Try.prog.info? 79).map (fun i => (i.zero, i.size, i.bytes)) = some (some (.agg #[.int .i64 0, .int .i64 0]), 2, 16) := by kernel_rfl
set_option maxHeartbeats 400000 in
theorem bases_any (n : Int) (w : World) : Calls Try.prog 43 #[.int .i64 n] w fun e w' => e = .returned (.func (.func 66) #[] #[.pointer (some ⟨w.heap.size, 0, none⟩)]) ∧ w' = w.alloc (.cells #[.int .i64 n] 3) := by
  go_enter Try.func43, Try.ntmps43
  go_wp2
  go_ret
  exact ⟨rfl, rfl⟩
def encB (p : Nat × Nat) : Array Value := #[.int .i64 p.1, .int .i64 p.2]
/-- The iterator's own variable is kept. -/
def keepC (Bn : Nat) (W W' : World) : Prop := W'.cell? ⟨Bn, 0, none⟩ = W.cell? ⟨Bn, 0, none⟩
theorem take_prefix {N i j : Nat} (hN : N ≤ 7) (hij : i < j) (hj : j < N) : ((Vm.basesL N).take (Vm.bt N i j) ++ [(i, j)]) <+: Vm.basesL N ∧ (Vm.basesL N).take (Vm.bt N i j) ++ [(i, j)] = (Vm.basesL N).take (Vm.bt N i (j + 1)) := by
  obtain ⟨_, _, _, h4, h5⟩ := Vm.bt_all N (by omega) i (by omega) j hj hij
  obtain ⟨h6, h7⟩ := List.getElem?_eq_some_iff.1 h4
  have e : (Vm.basesL N).take (Vm.bt N i j) ++ [(i, j)] = (Vm.basesL N).take (Vm.bt N i (j + 1)) := by
    rw [h5, List.take_succ_eq_append_getElem h6, h7]
  exact ⟨by rw [e]; exact List.take_prefix _ _, e⟩
set_option maxRecDepth 100000 in
set_option maxHeartbeats 2000000 in
theorem bases_seq (m N : Nat) (h2 : 2 ≤ N) (h7 : N ≤ 7) (Bn : Nat) (w : World) (hBn : Bn < w.heap.size) (hc : w.cell? ⟨Bn, 0, none⟩ = some (.int .i64 N)) :
    SeqR m Try.prog 66 #[.pointer (some ⟨Bn, 0, none⟩)] encB (Vm.basesL N) (keepC Bn) w := by
  intro l J Jx W hW hY h0
  have hcW : W.cell? ⟨Bn, 0, none⟩ = some (.int .i64 N) := (hW.cell (p := ⟨Bn, 0, none⟩) hBn).trans hc
  have hmany : Vm.manyB (N : Int) = true := (Vm.manyB_iff _).2 (by omega)
  refine callsIn_of_wp Try.func66 rfl trivial ?_ rfl
  simp only [Try.ntmps66, List.size_toArray, List.length_cons, List.length_nil, Nat.reduceAdd, Nat.reduceSub, Array.replicate_succ, Array.replicate_zero, List.push_toArray, List.append_toArray, List.nil_append, List.cons_append]
  clear hc hBn hW
  have HY := Lib.hid hY
  clear hY
  gi_wp2
  gi_loopw [3] (fun v wr => ∃ i : Nat, i ≤ N ∧ v = .int .i64 i ∧ wr.cell? ⟨Bn, 0, none⟩ = some (.int .i64 N) ∧ J ((Vm.basesL N).take (Vm.bt N i (i + 1))) wr) (fun v _ => N - (intOf v).toNat)
  case atStart => exact ⟨0, Nat.zero_le _, rfl, hcW, by rw [(Vm.bt_zero_all N (by omega)).1]; exact h0⟩
  case round =>
    clear hcW h0
    obtain ⟨i, hi, rfl, hci, hJ⟩ := hrel
    by_cases hlt : i < N
    · gi_wp2_with fail
      refine ⟨trivial, (fun e => by cases e), (callsIn_wide.2 (isMany_any _ _)).mono ?_⟩
      rintro e w' ⟨rfl, rfl⟩
      gi_wp2_with fail
      gi_loopw [4] (fun v wr => ∃ j : Nat, i < j ∧ j ≤ N ∧ v = .int .i64 j ∧ wr.cell? ⟨Bn, 0, none⟩ = some (.int .i64 N) ∧ J ((Vm.basesL N).take (Vm.bt N i j)) wr) (fun v _ => N - (intOf v).toNat)
      case atStart => exact ⟨i + 1, by omega, by omega, by go_num, hci, hJ⟩
      case round =>
        clear hci hJ
        obtain ⟨j, hij, hjN, rfl, hcj, hJ⟩ := hrel
        by_cases hjl : j < N
        · have htp := take_prefix h7 hij hjl
          obtain ⟨fn, tmps, assign, body, hy, hR⟩ := HY.out _ (i, j) wr hJ htp.1
          simp only [encB] at hy
          gi_wp2
          refine ⟨(fun e => by cases e), hR.mono ?_⟩
          rintro e W3 (⟨rfl, hJ3, hk3⟩ | ⟨rfl, hJx3⟩)
          · have hc3 : W3.cell? ⟨Bn, 0, none⟩ = some (.int .i64 N) := hk3.trans hcj
            rw [htp.2] at hJ3
            gi_wp2
            go_roundw
            case rel => exact ⟨j + 1, by omega, by omega, by go_num, hc3, hJ3⟩
            case measure => simp [intOf]; omega
          · gi_wp2
            refine bodyPost_ret (results_none rfl _ _ _) rfl ?_
            exact ⟨⟨_, rfl⟩, .inr ⟨_, htp.1, hJx3⟩⟩
        · have hje : j = N := by omega
          subst hje
          have HB := Lib.hid (Vm.bt_row_all j (by omega) i hlt)
          gi_wp2
          go_roundw
          case rel => exact ⟨i + 1, by omega, by go_num, hcj, by rw [← HB.out]; exact hJ⟩
          case measure => simp [intOf]; omega
    · have hie : i = N := by omega
      subst hie
      have HB := Lib.hid (show (Vm.basesL i).take (Vm.bt i i (i + 1)) = Vm.basesL i by
        obtain ⟨_, e1, e2⟩ := Vm.bt_zero_all i (by omega)
        rw [e2, ← e1, List.take_length])
      gi_wp2
      refine ⟨trivial, ?_⟩
      gi_wp2
      go_end0
      exact ⟨⟨_, rfl⟩, .inl (by rw [← HB.out]; exact hJ)⟩
theorem keepC_t {Bn : Nat} {A B C : World} (h : keepC Bn A B) (k : keepC Bn B C) : keepC Bn A C := k.trans h
theorem keepC_b {Bn : Nat} {w : World} (hB : Bn < w.heap.size) (W : World) (l : Nat) (o o' : Obj) (hl : w.heap.size ≤ l) (_ : W.heap[l]? = some o) (_ : o.isCells = false) : keepC Bn W (W.putObj l o') :=
  World.cell?_of_block (World.putObj_heap_other (by show Bn ≠ l; omega))
theorem boxed_of_below {W W' : World} {B : Nat} {t : TypeId} {v : Value} (h : Boxed W B t v) (hb : Below W.heap.size W W') : Boxed W' B t v := (hb.block B h.lt).trans h
theorem Boxed.new' (W : World) (B : Nat) (hB : B = W.heap.size) (t : TypeId) (v : Value) : Boxed (W.alloc (.cells #[v] t)) B t v := by subst hB; exact Boxed.new W t v
theorem ownFrom_box {β : Type} (B' B : Nat) (t : TypeId) (v : Value) : OwnFrom B' (fun (_ : β) W => Boxed W B t v) := Own.from (boxed_own B t (fun _ => v)) B'
/-- The row that a loop over the baselines has made so far. -/
def rowI (w : World) (Bo : Nat) (f : Nat × Nat → Int × Int) (pre : List (Nat × Nat)) (W : World) : Prop := ∃ v, Boxed W Bo 50 v ∧ W.ownsRow w.heap.size 79 2 v pre.length (cp (pre.map f)) ∧ True
theorem rowI_own (B' : Nat) (w : World) (Bo : Nat) (f : Nat × Nat → Int × Int) : OwnFrom B' (rowI w Bo f) := Own.from (holdsRow_own w.heap.size Bo 50 79 2 (fun pre : List (Nat × Nat) => pre.length) (fun pre : List (Nat × Nat) => cp (pre.map f)) (fun _ _ => True)) B'
theorem keeps_below {W W' : World} (h : Below W.heap.size W W') : KeepsOthers W W' := ⟨h.size, fun k _ hk _ => (h.block k (Array.getElem?_eq_some_iff.1 hk).1).trans hk⟩
theorem row_step {w W w2 w3 : World} {Bo g cap : Nat} {f : Nat × Nat → Int × Int} {pre : List (Nat × Nat)} {x : Nat × Nat} {v : Value} {tmp : Obj} (hv : Boxed W Bo 50 v) (hrow : W.ownsRow w.heap.size 79 2 v pre.length (cp (pre.map f))) (hB : Below w.heap.size w W) (hBo : w.heap.size ≤ Bo)
    (hb2 : Below W.heap.size W w2) (hown3 : w3.ownsRow w.heap.size 79 2 (.slice (some ⟨g, 0, none⟩) (pre.length + 1) cap) (pre.length + 1) (cp (pre.map f) ++ [.int .i64 (f x).1, .int .i64 (f x).2])) (hg3 : (w2.alloc tmp).grownBy w3 v.ownBlock) :
    Boxed w3 Bo 50 v ∧ rowI w Bo f (pre ++ [x]) (w3.setCell ⟨Bo, 0, none⟩ (.slice (some ⟨g, 0, none⟩) (pre.length + 1) cap)) ∧ KeepsOthers W (w3.setCell ⟨Bo, 0, none⟩ (.slice (some ⟨g, 0, none⟩) (pre.length + 1) cap)) ∧
      Below w.heap.size w (w3.setCell ⟨Bo, 0, none⟩ (.slice (some ⟨g, 0, none⟩) (pre.length + 1) cap)) ∧
      ∀ B t u, Boxed W B t u → t ≠ 79 → B ≠ Bo → Boxed w3 B t u ∧ Boxed (w3.setCell ⟨Bo, 0, none⟩ (.slice (some ⟨g, 0, none⟩) (pre.length + 1) cap)) B t u := by
  have hv2 := boxed_of_below hv hb2
  have hr2 := own_after hrow hb2
  have hsz : w.heap.size ≤ w2.heap.size := Nat.le_trans hB.size hb2.size
  obtain ⟨a1, a2, a3, a4, a5⟩ := hv2.appended (by decide) hr2 hsz hBo hown3 hg3
  refine ⟨a1, ⟨_, a2, by rw [List.length_append, List.map_append, cp_append]; exact a3, trivial⟩, (keeps_below hb2).trans a4, (bT hB hb2).trans a5, fun B t u hb hte hne => ?_⟩
  have h2 := (boxed_of_below hb hb2).alloc tmp
  have h3 : Boxed w3 B t u := h2.kept hg3 (h2.not_row hte (hr2.alloc _))
  exact ⟨h3, h3.other hne _⟩

end Go.Proofs.Ytjpklbkeofjppaa
