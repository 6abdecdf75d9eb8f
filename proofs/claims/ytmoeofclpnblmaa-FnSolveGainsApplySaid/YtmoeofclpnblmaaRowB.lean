/- Memory: rows of numbers and of flags that lie whole in a block; a queue of numbers. -/
import Derived.Test.YtmoeofclpnblmaaVisA
import Derived.Test.YtmoeofclpnblmaaFlagS
import Derived.Laws.MakeOwn
import Derived.Laws.Rows
import Derived.Deep.AppendSrc
import Derived.Deep.LoopGhost
namespace Go.Proofs.Ytmoeofclpnblmaa
open Go.RowKit

def cbo (K : List Bool) : List Value := K.map Value.bool
theorem cbo_length (K : List Bool) : (cbo K).length = K.length := by simp [cbo]
theorem cbo_at (K : List Bool) (k : Nat) (h : k < K.length) : (cbo K)[k]? = some (.bool K[k]) := by simp [cbo, h]
theorem cbo_set (K : List Bool) (k : Nat) (x : Bool) : cbo (K.set k x) = (cbo K).set k (.bool x) := by simp [cbo, List.map_set]
theorem cbo_append (K M : List Bool) : cbo (K ++ M) = cbo K ++ cbo M := by simp [cbo]
theorem cbo_one (K : List Bool) : ∀ u ∈ cbo K, u.oneCell' = true := by
  intro u hu; simp only [cbo, List.mem_map] at hu; obtain ⟨x, _, rfl⟩ := hu; rfl
theorem Rd.bool_at {w : World} {B n c k : Nat} {A : Option Addr} {K : List Bool} (h : Rd w B 1 A n c (cbo K)) (hk : k < K.length) :
    ∃ b off, A = some ⟨b, off, none⟩ ∧ b < B ∧ w.cell? ⟨b, off + k, none⟩ = some (.bool K[k]) := by
  have hl := h.len
  rw [cbo_length] at hl
  obtain ⟨b, off, e, hb, hc⟩ := h.at_ (by omega)
  exact ⟨b, off, e, hb, hc k _ (cbo_at K k hk)⟩

/-- A row of numbers, and one of flags, whole in block b. -/
def RI (w : World) (b : Nat) (P : List Int) : Prop := w.heap[b]? = some (.cells (ci P).toArray 3 (0, 0))
def RB (w : World) (b : Nat) (K : List Bool) : Prop := w.heap[b]? = some (.cells (cbo K).toArray 4 (0, 0))
section
variable {w w' : World} {b base : Nat} {P : List Int} {K : List Bool}
theorem RI.lt (h : RI w b P) : b < w.heap.size := lt_of_block h
theorem RB.lt (h : RB w b K) : b < w.heap.size := lt_of_block h
theorem RI.cell (h : RI w b P) {j : Nat} (hj : j < P.length) : w.cell? ⟨b, j, none⟩ = some (.int .i64 (Vm.pf P j)) := by
  rw [cell_of_row w b j _ _ _ h]
  simp [ci, Vm.pf, hj]
theorem RB.cell (h : RB w b K) {j : Nat} (hj : j < K.length) : w.cell? ⟨b, j, none⟩ = some (.bool (Vm.kf K j)) := by
  rw [cell_of_row w b j _ _ _ h]
  simp [cbo, Vm.kf, hj]
theorem RI.frozen (h : RI w b P) (j : Nat) : w.frozen? ⟨b, j, none⟩ = false := frozen_of_row w b j _ _ h
theorem RB.frozen (h : RB w b K) (j : Nat) : w.frozen? ⟨b, j, none⟩ = false := frozen_of_row w b j _ _ h
theorem RI.set (h : RI w b P) (j : Nat) (x : Int) : RI (w.setCell ⟨b, j, none⟩ (.int .i64 x)) b (P.set j x) := by
  unfold RI
  rw [Go.heap_setCell_same w b j _ _ _ h, ci_set]
  simp
theorem RB.set (h : RB w b K) (j : Nat) (x : Bool) : RB (w.setCell ⟨b, j, none⟩ (.bool x)) b (K.set j x) := by
  unfold RB
  rw [Go.heap_setCell_same w b j _ _ _ h, cbo_set]
  simp
theorem RI.other (h : RI w b P) (a : Addr) (hne : b ≠ a.block) (u : Value) : RI (w.setCell a u) b P := (heap_setCell_other w a b u hne).trans h
theorem RB.other (h : RB w b K) (a : Addr) (hne : b ≠ a.block) (u : Value) : RB (w.setCell a u) b K := (heap_setCell_other w a b u hne).trans h
theorem RI.after (h : RI w b P) (hb : Below w.heap.size w w') : RI w' b P := (hb.block b h.lt).trans h
theorem RB.after (h : RB w b K) (hb : Below w.heap.size w w') : RB w' b K := (hb.block b h.lt).trans h
theorem RI.grown (h : RI w b P) {row : Option Nat} (hg : w.grownBy w' row) (hne : some b ≠ row) : RI w' b P := (hg.block b h.lt hne).trans h
theorem RB.grown (h : RB w b K) {row : Option Nat} (hg : w.grownBy w' row) (hne : some b ≠ row) : RB w' b K := (hg.block b h.lt hne).trans h
theorem RI.own (h : RI w b P) (hb : base ≤ b) (hn : P.length ≤ 1000) : w.ownsRow base 3 1 (.slice (some ⟨b, 0, none⟩) P.length P.length) P.length (ci P) :=
  ⟨by simp [ci], .inr ⟨b, _, _, rfl, hb, h, Nat.le_refl _, by unfold maxLen; omega, by simp [ci], by simp [ci, List.take_of_length_le]⟩⟩
theorem RB.own (h : RB w b K) (hb : base ≤ b) (hn : K.length ≤ 1000) : w.ownsRow base 4 1 (.slice (some ⟨b, 0, none⟩) K.length K.length) K.length (cbo K) :=
  ⟨by simp [cbo], .inr ⟨b, _, _, rfl, hb, h, Nat.le_refl _, by unfold maxLen; omega, by simp [cbo], by simp [cbo, List.take_of_length_le]⟩⟩
end
theorem infoInt0 : (Try.prog.info? 3).map (fun i => (i.zero, i.size, i.bytes)) = some (some (.int .i64 0), 1, 8) := by kernel_rfl
theorem infoBool0 : (Try.prog.info? 4).map (fun i => (i.zero, i.size, i.bytes)) = some (some (.bool false), 1, 1) := by kernel_rfl
theorem made_rep (x : Value) (n : Nat) : madeCells #[x] (n * 1) = (List.replicate n x).toArray := by
  apply Array.ext'
  unfold madeCells
  simp only [Array.toList_map, Array.toList_range, Nat.mul_one]
  apply List.ext_getElem
  · simp
  · intro i h1 h2
    simp [Nat.mod_one]
theorem ci_rep (n : Nat) : ci (List.replicate n 0) = List.replicate n (.int .i64 0) := by simp [ci]
theorem cbo_rep (n : Nat) : cbo (List.replicate n false) = List.replicate n (.bool false) := by simp [cbo]
/-- Rows of zeros are made. -/
theorem makeI (w : World) (n : Nat) (hn : n ≤ 1000) : (Instr.makeSlice 27 (.int .i64 n) (.int .i64 n)).run Try.prog w = .ok (.slice (some ⟨w.heap.size, 0, none⟩) n n) (w.alloc (.cells (ci (List.replicate n 0)).toArray 3)) := by
  obtain ⟨i0, hi, hz0, hz1, hz2⟩ := info_parts infoInt0
  have := run_makeSlice (P := Try.prog) w 27 3 i0 _ Try.underlying27 hi hz0 .i64 .i64 n n (by omega) (by omega) (by rw [hz1]; simp; omega) (by rw [hz2]; omega) (by omega)
  rw [this, hz1, ci_rep]
  simp only [Int.toNat_natCast]
  rw [show (Value.int .i64 0).cells = #[Value.int .i64 0] from rfl, made_rep]
theorem makeB (w : World) (n : Nat) (hn : n ≤ 1000) : (Instr.makeSlice 24 (.int .i64 n) (.int .i64 n)).run Try.prog w = .ok (.slice (some ⟨w.heap.size, 0, none⟩) n n) (w.alloc (.cells (cbo (List.replicate n false)).toArray 4)) := by
  obtain ⟨i0, hi, hz0, hz1, hz2⟩ := info_parts infoBool0
  have := run_makeSlice (P := Try.prog) w 24 4 i0 _ Try.underlying24 hi hz0 .i64 .i64 n n (by omega) (by omega) (by rw [hz1]; simp; omega) (by rw [hz2]; omega) (by omega)
  rw [this, hz1, cbo_rep]
  simp only [Int.toNat_natCast]
  rw [show (Value.bool false).cells = #[Value.bool false] from rfl, made_rep]
theorem new_RI (w : World) (P : List Int) : RI (w.alloc (.cells (ci P).toArray 3)) w.heap.size P := heap_alloc_new w _
theorem new_RB (w : World) (K : List Bool) : RB (w.alloc (.cells (cbo K).toArray 4)) w.heap.size K := heap_alloc_new w _

/-- A queue of numbers that the call owns: any part of a row in one of its blocks. -/
structure Qu (w : World) (base : Nat) (g off c : Nat) (Q : List Int) : Prop where
  lo : base ≤ g
  le : Q.length ≤ c
  most : c ≤ 9223372036854775807
  row : ∃ cs : Array Value, w.heap[g]? = some (.cells cs 3 (0, 0)) ∧ cs.size = off + c ∧ ∀ j, j < Q.length → cs[off + j]? = some (.int .i64 (Vm.pf Q j))
section
variable {w w' : World} {base g off c : Nat} {Q : List Int}
theorem Qu.lt (h : Qu w base g off c Q) : g < w.heap.size := by
  obtain ⟨cs, hg, _⟩ := h.row
  exact lt_of_block hg
theorem Qu.cell (h : Qu w base g off c Q) {j : Nat} (hj : j < Q.length) : w.cell? ⟨g, off + j, none⟩ = some (.int .i64 (Vm.pf Q j)) := by
  obtain ⟨cs, hg, hs, hc⟩ := h.row
  rw [cell_of_row w g _ cs _ _ hg]
  exact hc j hj
theorem Qu.keep (h : Qu w base g off c Q) (hk : w'.heap[g]? = w.heap[g]?) : Qu w' base g off c Q := by
  obtain ⟨cs, hg, hs, hc⟩ := h.row
  exact ⟨h.lo, h.le, h.most, cs, hk.trans hg, hs, hc⟩
theorem Qu.after (h : Qu w base g off c Q) (hb : Below w.heap.size w w') : Qu w' base g off c Q := h.keep (hb.block g h.lt)
theorem Qu.other (h : Qu w base g off c Q) (a : Addr) (hne : g ≠ a.block) (u : Value) : Qu (w.setCell a u) base g off c Q := h.keep (heap_setCell_other w a g u hne)
theorem Qu.tail {x : Int} (h : Qu w base g off c (x :: Q)) : Qu w base g (off + 1) (c - 1) Q := by
  obtain ⟨cs, hg, hs, hc⟩ := h.row
  have hl := h.le
  simp only [List.length_cons] at hl
  refine ⟨h.lo, by omega, by have := h.most; omega, cs, hg, by omega, fun j hj => ?_⟩
  have := hc (j + 1) (by simp; omega)
  rw [show off + 1 + j = off + (j + 1) by omega, this]
  simp [Vm.pf]
theorem Qu.one (w : World) (x : Int) (hb : base ≤ w.heap.size) : Qu (w.alloc (.cells #[.int .i64 x] 3)) base w.heap.size 0 1 [x] :=
  ⟨hb, by simp, by omega, _, heap_alloc_new w _, by simp, fun j hj => by simp at hj; subst hj; simp [Vm.pf]⟩
end

/-- One number more. -/
theorem run_append_qu (w : World) {base g off c : Nat} {Q : List Int} (h : Qu w base g off c Q) (hbase : base ≤ w.heap.size) (hQ : Q.length ≤ 1000) (ad : Addr) (cc : Nat) (x : Int) (hx : w.cell? ad = some (.int .i64 x)) (hsp : ad.spot = none) (ty : TypeId) :
    ∃ g' off' c' w', (Builtin.append_ #[27, 27] ty #[.slice (some ⟨g, off, none⟩) Q.length c, .slice (some ad) 1 cc]).run Try.prog w = .ok (.slice (some ⟨g', off', none⟩) (Q.length + 1) c') w' ∧
      Qu w' base g' off' c' (Q ++ [x]) ∧ w.grownBy w' (some g) ∧ (g' = g ∨ g' = w.heap.size) := by
  obtain ⟨i0, hi, hz0, hz1, hz2⟩ := info_parts infoInt0
  have hsrc : Src Try.prog i0.size 27 (.slice (some ad) 1 cc) 1 [.int .i64 x] w := by
    rw [hz1]
    refine Src.ofSlice w Try.underlying27 ad 1 cc _ (by simp) (fun j u hu => ?_) (by intro u hu; simp at hu; subst hu; rfl)
    have hj : j = 0 := by
      have := (List.getElem?_eq_some_iff.1 hu).1
      simp at this; exact this
    subst hj
    simp at hu; subst hu
    have : ad.add 0 = ad := by unfold Addr.add; cases ad; simp_all
    rw [this]; exact hx
  obtain ⟨cs, hg, hs, hc⟩ := h.row
  have hle := h.le
  have hmost := h.most
  by_cases hroom : Q.length + 1 ≤ c
  · have hlt : off + Q.length < cs.size := by omega
    have hr := run_append_room_src (P := Try.prog) w 27 27 ty 3 i0 Try.underlying27 hi g off Q.length c _ 1 _ hsrc hroom
      (fun j hj => by
        simp at hj; subst hj
        rw [cell_of_row w g _ cs _ _ hg, hz1]
        simp [hlt])
      (fun j hj => frozen_of_row w g _ cs _ hg)
    rw [hz1] at hr
    refine ⟨g, off, c, _, hr, ?_, ?_, .inl rfl⟩
    · refine ⟨h.lo, by simpa using hroom, hmost, cs.setIfInBounds (off + Q.length) (.int .i64 x), ?_, by simpa using hs, fun j hj => ?_⟩
      · simp only [World.setCells, Nat.mul_one]
        exact Go.heap_setCell_same w g _ cs _ _ hg
      · simp only [List.length_append, List.length_cons, List.length_nil] at hj
        by_cases e : j = Q.length
        · subst e
          rw [Array.getElem?_setIfInBounds_self_of_lt hlt]
          simp [Vm.pf]
        · rw [Array.getElem?_setIfInBounds_ne (by omega), hc j (by omega)]
          simp [Vm.pf, List.getElem?_append_left (show j < Q.length by omega)]
    · simp only [World.setCells, Nat.mul_one]
      exact ⟨rfl, rfl, rfl, by simp, fun k _ hk => heap_setCell_other _ _ _ _ (fun e => hk (by rw [e]))⟩
  · have hold : (Builtin.firstCells i0.size Q.length (.slice (some ⟨g, off, none⟩) Q.length c)).run Try.prog w.drew = .ok (ci Q).toArray w.drew := by
      refine run_firstCells_some w.drew i0.size Q.length ⟨g, off, none⟩ Q.length c (ci Q) (by rw [hz1, ci_length]; omega) (fun j u hu => ?_)
      have hj : j < Q.length := by
        have := (List.getElem?_eq_some_iff.1 hu).1
        rwa [ci_length] at this
      have e1 : ((⟨g, off, none⟩ : Addr).add j) = ⟨g, off + j, none⟩ := by unfold Addr.add; split <;> simp_all
      rw [e1]
      rw [ci_at Q j hj] at hu
      rw [show w.drew.cell? ⟨g, off + j, none⟩ = w.cell? ⟨g, off + j, none⟩ from rfl, h.cell hj, ← hu]
      simp [Vm.pf, hj]
    have hcap : Builtin.nextslicecap (Q.length + 1) c * i0.bytes ≤ 281474976710656 := growslice_fits (by omega) (by rw [hz2]; omega)
    have hr := run_append_grow_src (P := Try.prog) w 27 27 ty 3 i0 _ Try.underlying27 hi hz0 (some ⟨g, off, none⟩) Q.length c (ci Q) hold _ 1 _ hsrc (by omega) (by omega) hcap
    have hge := grownCap_ge w (Q.length + 1) c 3
    have hbd : grownCap w (Q.length + 1) c 3 ≤ 9223372036854775807 := by have := grownCap_le_maxLen w (Q.length + 1) c 3 (by unfold maxLen; omega); unfold maxLen at this; omega
    refine ⟨_, _, _, _, hr, ?_, ⟨rfl, rfl, rfl, by simp, fun k hk _ => Below.heap_alloc w.drew _ k hk⟩, .inr rfl⟩
    refine ⟨hbase, by simpa using hge, hbd, _, heap_alloc_new w.drew _, ?_, fun j hj => ?_⟩
    · simp only [Array.size_append, List.size_toArray, size_zeroCells, List.length_append, ci_length, List.length_cons, List.length_nil]
      rw [show (Value.int .i64 0).cells.size = 1 from rfl]
      omega
    · simp only [List.length_append, List.length_cons, List.length_nil] at hj
      rw [Nat.zero_add, Array.getElem?_append_left (by simp [ci_length]; omega)]
      by_cases e : j = Q.length
      · subst e
        simp [ci, Vm.pf]
      · have hj' : j < Q.length := by omega
        have hj2 : j < (ci Q).length := by rw [ci_length]; exact hj'
        simp [Vm.pf, List.getElem?_append_left hj2, List.getElem?_append_left hj', ci_at Q j hj', hj']

theorem wpList_append_qu (w : World) {ops : Array Oper} {rest : List Oper} {o : Oper} {a : Act} {R : Exit → Act → World → Prop} (hgd : o.guard = none) (s x : Operand)
    (ho : o.op = .call { callee := .builtin .append, args := #[s, x], argTypes := #[27, 27] }) {base g off c n : Nat} {Q : List Int} (h : Qu w base g off c Q) (hbase : base ≤ w.heap.size) (hQ : Q.length ≤ 1000)
    (hs : a.eval s = .slice (some ⟨g, off, none⟩) n c) (hn : n = Q.length) (ad : Addr) (cc : Nat) (y : Int) (hx : a.eval x = .slice (some ad) 1 cc) (hy : w.cell? ad = some (.int .i64 y)) (hsp : ad.spot = none)
    (hK : ∀ g' off' c' w', Qu w' base g' off' c' (Q ++ [y]) → w.grownBy w' (some g) → wpList Try.prog ops R rest (a.put o.dst (.slice (some ⟨g', off', none⟩) (n + 1) c')) w') : wpList Try.prog ops R (o :: rest) a w := by
  subst hn
  refine wpList_plain hgd fun K hK' => ?_
  obtain ⟨g', off', c', w', hr, h1, h2, _⟩ := run_append_qu w h hbase hQ ad cc y hy hsp o.type
  unfold Oper.wp execOp
  simp only [ho, resolve, invoke, builtin, Sem.run_bind, Sem.run_pure, Result.andThen_ok, List.map_toArray, List.map_cons, List.map_nil, hs, hx, hr]
  exact hK' _ _ (hK g' off' c' w' h1 h2)
/-- The queue without its head. -/
def Qv (w : World) (base : Nat) (v : Value) (Q : List Int) : Prop := (Q = [] ∧ ∃ A c, v = .slice A 0 c) ∨ (∃ x Q' g off c, Q = x :: Q' ∧ v = .slice (some ⟨g, off, none⟩) (Q'.length + 1) c ∧ Qu w base g off c Q)
theorem slice_tail (w : World) {g off c n : Nat} (hn : n + 1 ≤ c) (hc : c ≤ 9223372036854775807) : (Instr.slice 27 (.slice (some ⟨g, off, none⟩) (n + 1) c) (some (.int .i64 1)) none none).run Try.prog w = .ok (.slice (some ⟨g, if c = 1 then off else off + 1, none⟩) n (c - 1)) w := by
  obtain ⟨i0, hi, hz0, hz1, hz2⟩ := info_parts infoInt0
  by_cases e : c = 1
  · subst e
    simp [Instr.slice, run_underlying Try.underlying27, Instr.sliceBounds, Instr.sliceBound, asIntOf, sizeOf, typeInfo, hi, hz1]
    intro hh; omega
  · simp [Instr.slice, run_underlying Try.underlying27, Instr.sliceBounds, Instr.sliceBound, asIntOf, sizeOf, typeInfo, hi, hz1, e, Addr.add]
    intro hh; omega
theorem Qv.tail {w : World} {base g off c : Nat} {x : Int} {Q : List Int} (h : Qu w base g off c (x :: Q)) : Qv w base (.slice (some ⟨g, if c = 1 then off else off + 1, none⟩) Q.length (c - 1)) Q := by
  have hl := h.le
  simp only [List.length_cons] at hl
  cases Q with
  | nil => exact .inl ⟨rfl, _, _, rfl⟩
  | cons y R =>
    simp only [List.length_cons] at hl
    rw [if_neg (by omega)]
    exact .inr ⟨y, R, g, off + 1, c - 1, rfl, by simp, h.tail⟩

end Go.Proofs.Ytmoeofclpnblmaa
